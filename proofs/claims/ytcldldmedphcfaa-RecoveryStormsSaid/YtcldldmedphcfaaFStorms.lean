-- Written for this claim by a program of this session (wip/tools/hprint.py) out of the translation. Lean checks it.
import Derived.Test.YtcldldmedphcfaaCKinds
import Derived.Test.YtcldldmedphcfaaCSame
import Derived.Test.YtcldldmedphcfaaCSane
import Derived.Test.YtcldldmedphcfaaCMade
import Derived.Test.YtcldldmedphcfaaCAttempts
import Derived.Test.YtcldldmedphcfaaHPick
import Derived.Test.YtcldldmedphcfaaHPlan
import Derived.Test.YtcldldmedphcfaaHStorm
namespace Go.Proofs.Ytcldldmedphcfaa.C
open Go.RowKit Go.Proofs.YtcldldmedphcfaaW.PrintWords Go.Proofs.YtcldldmedphcfaaW.PrintLast Go.Proofs.YtcldldmedphcfaaW.PrintMore
attribute [local go_sem] max2_int min2_int max_two min_two max_three min_three max_four min_four   -- for this text's walks alone
set_option linter.unusedVariables false
set_option linter.unusedSimpArgs false

/-! ### dialtonelaw34_RecoveryStorms: function 3 -/
mutual
def dialtonelaw34_RecoveryStorms.j0 : Nat → Int → List (S39) → List (S39) → Int → Bool → Option (Bool)
 | 0, _, _, _, _, _ => none
 | k + 1, x4, x14, x16, x17, x88 => if x88 = true then (none) else ((dialtonelaw34_pick.f x4 80).bind fun t258 => (dialtonelaw34_RecoveryStorms.l0 k x14 x16 x17 t258 0 0 0))
def dialtonelaw34_RecoveryStorms.l0 : Nat → List (S39) → List (S39) → Int → Int → Int → Int → Int → Option (Bool)
 | 0, _, _, _, _, _, _, _ => none
 | k + 1, x14, x16, x17, x22, x23, x24, x25 => if x25 < (x16.length : Int) then (if 0 ≤ x25 then (if ((rd_T39 x16 x25).f2) ≤ x22 then (dialtonelaw34_RecoveryStorms.j2 k x14 x16 x17 x22 (wrap64 (x23 + 1)) x24 x25) else (dialtonelaw34_RecoveryStorms.j2 k x14 x16 x17 x22 x23 x24 x25)) else (none)) else (dialtonelaw34_RecoveryStorms.l1 k x14 x22 x23 x24 0)
def dialtonelaw34_RecoveryStorms.j2 : Nat → List (S39) → List (S39) → Int → Int → Int → Int → Int → Option (Bool)
 | 0, _, _, _, _, _, _, _ => none
 | k + 1, x14, x16, x17, x22, x23, x24, x25 => if 0 ≤ x25 then (if x25 < (x16.length : Int) then (if ((rd_T39 x16 x25).f2) < ((rd_T39 x16 x25).f1) then (dialtonelaw34_RecoveryStorms.j3 k x14 x16 x17 x22 x23 x24 x25 true) else (if x17 ≥ 0 then (dialtonelaw34_RecoveryStorms.j3 k x14 x16 x17 x22 x23 x24 x25 (decide (((rd_T39 x16 x25).f2) > x17))) else (dialtonelaw34_RecoveryStorms.j3 k x14 x16 x17 x22 x23 x24 x25 false))) else (none)) else (none)
def dialtonelaw34_RecoveryStorms.j3 : Nat → List (S39) → List (S39) → Int → Int → Int → Int → Int → Bool → Option (Bool)
 | 0, _, _, _, _, _, _, _, _ => none
 | k + 1, x14, x16, x17, x22, x23, x24, x25, x129 => if x129 = true then (none) else (dialtonelaw34_RecoveryStorms.l0 k x14 x16 x17 x22 x23 x24 (wrap64 (x25 + 1)))
def dialtonelaw34_RecoveryStorms.l1 : Nat → List (S39) → Int → Int → Int → Int → Option (Bool)
 | 0, _, _, _, _, _ => none
 | k + 1, x14, x22, x23, x24, x26 => if x26 < (x14.length : Int) then (if 0 ≤ x26 then (if ((rd_T39 x14 x26).f2) ≤ x22 then (dialtonelaw34_RecoveryStorms.l1 k x14 x22 x23 (wrap64 (x24 + 1)) (wrap64 (x26 + 1))) else (dialtonelaw34_RecoveryStorms.l1 k x14 x22 x23 x24 (wrap64 (x26 + 1)))) else (none)) else (some (decide (x23 ≤ x24)))
end
def dialtonelaw34_RecoveryStorms.f (k : Nat) (l0 : List (S71)) (a1 : Int) (l2 : List (S71)) (a3 : Int) (a4 : Int) : Option (Bool) := (dialtonelaw34_sane.f k).bind fun t233 => (if t233 = true then ((dialtoneref34_Made.f k l0 a1).bind fun bt234 => ((dialtoneref34_Attempts.f k l2).bind fun t239 => ((recovery_Plan.f bt234.1 bt234.2 t239).bind fun bt242 => ((dialtonelaw34_pick.f a3 6).bind fun t246 => ((recovery_Storm.f bt234.1 bt234.2 t239 (wrap64 (1 + t246))).bind fun bt247 => ((recovery_Storm.f bt234.1 bt234.2 t239 1).bind fun bt252 => (if bt242.2 = 0 then (if bt247.2.2 = 0 then (if bt252.2.2 = 0 then (if bt252.2.1 < 0 then ((dialtoneref34_Same.f k bt252.1 bt242.1).bind fun t257 => (if t257 = true then (if bt247.2.1 < 0 then (dialtonelaw34_RecoveryStorms.j0 k a4 bt242.1 bt247.1 bt247.2.1 ((bt247.1.length : Int) != (t239.length : Int))) else (dialtonelaw34_RecoveryStorms.j0 k a4 bt242.1 bt247.1 bt247.2.1 false)) else (dialtonelaw34_RecoveryStorms.j0 k a4 bt242.1 bt247.1 bt247.2.1 true))) else (if bt247.2.1 < 0 then (dialtonelaw34_RecoveryStorms.j0 k a4 bt242.1 bt247.1 bt247.2.1 ((bt247.1.length : Int) != (t239.length : Int))) else (dialtonelaw34_RecoveryStorms.j0 k a4 bt242.1 bt247.1 bt247.2.1 false))) else (dialtonelaw34_RecoveryStorms.j0 k a4 bt242.1 bt247.1 bt247.2.1 true)) else (dialtonelaw34_RecoveryStorms.j0 k a4 bt242.1 bt247.1 bt247.2.1 true)) else (dialtonelaw34_RecoveryStorms.j0 k a4 bt242.1 bt247.1 bt247.2.1 true)))))))) else (none))
theorem dialtonelaw34_RecoveryStorms.mono_l : ∀ k, (∀ y0 y1 y2 y3 y4, LeO (dialtonelaw34_RecoveryStorms.j0 k y0 y1 y2 y3 y4) (dialtonelaw34_RecoveryStorms.j0 (k + 1) y0 y1 y2 y3 y4)) ∧ (∀ y0 y1 y2 y3 y4 y5 y6, LeO (dialtonelaw34_RecoveryStorms.l0 k y0 y1 y2 y3 y4 y5 y6) (dialtonelaw34_RecoveryStorms.l0 (k + 1) y0 y1 y2 y3 y4 y5 y6)) ∧ (∀ y0 y1 y2 y3 y4 y5 y6, LeO (dialtonelaw34_RecoveryStorms.j2 k y0 y1 y2 y3 y4 y5 y6) (dialtonelaw34_RecoveryStorms.j2 (k + 1) y0 y1 y2 y3 y4 y5 y6)) ∧ (∀ y0 y1 y2 y3 y4 y5 y6 y7, LeO (dialtonelaw34_RecoveryStorms.j3 k y0 y1 y2 y3 y4 y5 y6 y7) (dialtonelaw34_RecoveryStorms.j3 (k + 1) y0 y1 y2 y3 y4 y5 y6 y7)) ∧ (∀ y0 y1 y2 y3 y4, LeO (dialtonelaw34_RecoveryStorms.l1 k y0 y1 y2 y3 y4) (dialtonelaw34_RecoveryStorms.l1 (k + 1) y0 y1 y2 y3 y4))
 | 0 => ⟨fun _ _ _ _ _ r h => by simp [dialtonelaw34_RecoveryStorms.j0] at h, fun _ _ _ _ _ _ _ r h => by simp [dialtonelaw34_RecoveryStorms.l0] at h, fun _ _ _ _ _ _ _ r h => by simp [dialtonelaw34_RecoveryStorms.j2] at h, fun _ _ _ _ _ _ _ _ r h => by simp [dialtonelaw34_RecoveryStorms.j3] at h, fun _ _ _ _ _ r h => by simp [dialtonelaw34_RecoveryStorms.l1] at h⟩
 | k + 1 => by
  obtain ⟨ih0, ih1, ih2, ih3, ih4⟩ := dialtonelaw34_RecoveryStorms.mono_l k
  refine ⟨?_, ?_, ?_, ?_, ?_⟩
  ·
   intro y0 y1 y2 y3 y4
   unfold dialtonelaw34_RecoveryStorms.j0
   repeat' first
   | (with_reducible exact ih0 _ _ _ _ _)
   | (with_reducible exact ih1 _ _ _ _ _ _ _)
   | (with_reducible exact ih2 _ _ _ _ _ _ _)
   | (with_reducible exact ih3 _ _ _ _ _ _ _ _)
   | (with_reducible exact ih4 _ _ _ _ _)
   | (with_reducible exact dialtonelaw34_sane.mono _)
   | (with_reducible exact dialtoneref34_Attempts.mono _ _)
   | (with_reducible exact dialtoneref34_Made.mono _ _ _)
   | (with_reducible exact dialtoneref34_Same.mono _ _ _)
   | (with_reducible exact LeO.refl _)
   | (with_reducible exact LeO.none _)
   | (with_reducible refine LeO.ite ?_ ?_)
   | (with_reducible refine LeO.bind ?_ (fun _ => ?_))
   | exact ih0 _ _ _ _ _
   | exact ih1 _ _ _ _ _ _ _
   | exact ih2 _ _ _ _ _ _ _
   | exact ih3 _ _ _ _ _ _ _ _
   | exact ih4 _ _ _ _ _
   | exact dialtonelaw34_sane.mono _
   | exact dialtoneref34_Attempts.mono _ _
   | exact dialtoneref34_Made.mono _ _ _
   | exact dialtoneref34_Same.mono _ _ _
   | exact LeO.none _
   | refine LeO.ite ?_ ?_
   | refine LeO.bind ?_ (fun _ => ?_)
  ·
   intro y0 y1 y2 y3 y4 y5 y6
   unfold dialtonelaw34_RecoveryStorms.l0
   repeat' first
   | (with_reducible exact ih0 _ _ _ _ _)
   | (with_reducible exact ih1 _ _ _ _ _ _ _)
   | (with_reducible exact ih2 _ _ _ _ _ _ _)
   | (with_reducible exact ih3 _ _ _ _ _ _ _ _)
   | (with_reducible exact ih4 _ _ _ _ _)
   | (with_reducible exact dialtonelaw34_sane.mono _)
   | (with_reducible exact dialtoneref34_Attempts.mono _ _)
   | (with_reducible exact dialtoneref34_Made.mono _ _ _)
   | (with_reducible exact dialtoneref34_Same.mono _ _ _)
   | (with_reducible exact LeO.refl _)
   | (with_reducible exact LeO.none _)
   | (with_reducible refine LeO.ite ?_ ?_)
   | (with_reducible refine LeO.bind ?_ (fun _ => ?_))
   | exact ih0 _ _ _ _ _
   | exact ih1 _ _ _ _ _ _ _
   | exact ih2 _ _ _ _ _ _ _
   | exact ih3 _ _ _ _ _ _ _ _
   | exact ih4 _ _ _ _ _
   | exact dialtonelaw34_sane.mono _
   | exact dialtoneref34_Attempts.mono _ _
   | exact dialtoneref34_Made.mono _ _ _
   | exact dialtoneref34_Same.mono _ _ _
   | exact LeO.none _
   | refine LeO.ite ?_ ?_
   | refine LeO.bind ?_ (fun _ => ?_)
  ·
   intro y0 y1 y2 y3 y4 y5 y6
   unfold dialtonelaw34_RecoveryStorms.j2
   repeat' first
   | (with_reducible exact ih0 _ _ _ _ _)
   | (with_reducible exact ih1 _ _ _ _ _ _ _)
   | (with_reducible exact ih2 _ _ _ _ _ _ _)
   | (with_reducible exact ih3 _ _ _ _ _ _ _ _)
   | (with_reducible exact ih4 _ _ _ _ _)
   | (with_reducible exact dialtonelaw34_sane.mono _)
   | (with_reducible exact dialtoneref34_Attempts.mono _ _)
   | (with_reducible exact dialtoneref34_Made.mono _ _ _)
   | (with_reducible exact dialtoneref34_Same.mono _ _ _)
   | (with_reducible exact LeO.refl _)
   | (with_reducible exact LeO.none _)
   | (with_reducible refine LeO.ite ?_ ?_)
   | (with_reducible refine LeO.bind ?_ (fun _ => ?_))
   | exact ih0 _ _ _ _ _
   | exact ih1 _ _ _ _ _ _ _
   | exact ih2 _ _ _ _ _ _ _
   | exact ih3 _ _ _ _ _ _ _ _
   | exact ih4 _ _ _ _ _
   | exact dialtonelaw34_sane.mono _
   | exact dialtoneref34_Attempts.mono _ _
   | exact dialtoneref34_Made.mono _ _ _
   | exact dialtoneref34_Same.mono _ _ _
   | exact LeO.none _
   | refine LeO.ite ?_ ?_
   | refine LeO.bind ?_ (fun _ => ?_)
  ·
   intro y0 y1 y2 y3 y4 y5 y6 y7
   unfold dialtonelaw34_RecoveryStorms.j3
   repeat' first
   | (with_reducible exact ih0 _ _ _ _ _)
   | (with_reducible exact ih1 _ _ _ _ _ _ _)
   | (with_reducible exact ih2 _ _ _ _ _ _ _)
   | (with_reducible exact ih3 _ _ _ _ _ _ _ _)
   | (with_reducible exact ih4 _ _ _ _ _)
   | (with_reducible exact dialtonelaw34_sane.mono _)
   | (with_reducible exact dialtoneref34_Attempts.mono _ _)
   | (with_reducible exact dialtoneref34_Made.mono _ _ _)
   | (with_reducible exact dialtoneref34_Same.mono _ _ _)
   | (with_reducible exact LeO.refl _)
   | (with_reducible exact LeO.none _)
   | (with_reducible refine LeO.ite ?_ ?_)
   | (with_reducible refine LeO.bind ?_ (fun _ => ?_))
   | exact ih0 _ _ _ _ _
   | exact ih1 _ _ _ _ _ _ _
   | exact ih2 _ _ _ _ _ _ _
   | exact ih3 _ _ _ _ _ _ _ _
   | exact ih4 _ _ _ _ _
   | exact dialtonelaw34_sane.mono _
   | exact dialtoneref34_Attempts.mono _ _
   | exact dialtoneref34_Made.mono _ _ _
   | exact dialtoneref34_Same.mono _ _ _
   | exact LeO.none _
   | refine LeO.ite ?_ ?_
   | refine LeO.bind ?_ (fun _ => ?_)
  ·
   intro y0 y1 y2 y3 y4
   unfold dialtonelaw34_RecoveryStorms.l1
   repeat' first
   | (with_reducible exact ih0 _ _ _ _ _)
   | (with_reducible exact ih1 _ _ _ _ _ _ _)
   | (with_reducible exact ih2 _ _ _ _ _ _ _)
   | (with_reducible exact ih3 _ _ _ _ _ _ _ _)
   | (with_reducible exact ih4 _ _ _ _ _)
   | (with_reducible exact dialtonelaw34_sane.mono _)
   | (with_reducible exact dialtoneref34_Attempts.mono _ _)
   | (with_reducible exact dialtoneref34_Made.mono _ _ _)
   | (with_reducible exact dialtoneref34_Same.mono _ _ _)
   | (with_reducible exact LeO.refl _)
   | (with_reducible exact LeO.none _)
   | (with_reducible refine LeO.ite ?_ ?_)
   | (with_reducible refine LeO.bind ?_ (fun _ => ?_))
   | exact ih0 _ _ _ _ _
   | exact ih1 _ _ _ _ _ _ _
   | exact ih2 _ _ _ _ _ _ _
   | exact ih3 _ _ _ _ _ _ _ _
   | exact ih4 _ _ _ _ _
   | exact dialtonelaw34_sane.mono _
   | exact dialtoneref34_Attempts.mono _ _
   | exact dialtoneref34_Made.mono _ _ _
   | exact dialtoneref34_Same.mono _ _ _
   | exact LeO.none _
   | refine LeO.ite ?_ ?_
   | refine LeO.bind ?_ (fun _ => ?_)
theorem dialtonelaw34_RecoveryStorms.mono : ∀ a0 a1 a2 a3 a4 k, LeO (dialtonelaw34_RecoveryStorms.f k a0 a1 a2 a3 a4) (dialtonelaw34_RecoveryStorms.f (k + 1) a0 a1 a2 a3 a4) := by
 intro a0 a1 a2 a3 a4 k
 obtain ⟨ih0, ih1, ih2, ih3, ih4⟩ := dialtonelaw34_RecoveryStorms.mono_l k
 unfold dialtonelaw34_RecoveryStorms.f
 repeat' first
   | (with_reducible exact ih0 _ _ _ _ _)
   | (with_reducible exact ih1 _ _ _ _ _ _ _)
   | (with_reducible exact ih2 _ _ _ _ _ _ _)
   | (with_reducible exact ih3 _ _ _ _ _ _ _ _)
   | (with_reducible exact ih4 _ _ _ _ _)
   | (with_reducible exact dialtonelaw34_sane.mono _)
   | (with_reducible exact dialtoneref34_Attempts.mono _ _)
   | (with_reducible exact dialtoneref34_Made.mono _ _ _)
   | (with_reducible exact dialtoneref34_Same.mono _ _ _)
   | (with_reducible exact LeO.refl _)
   | (with_reducible exact LeO.none _)
   | (with_reducible refine LeO.ite ?_ ?_)
   | (with_reducible refine LeO.bind ?_ (fun _ => ?_))
   | exact ih0 _ _ _ _ _
   | exact ih1 _ _ _ _ _ _ _
   | exact ih2 _ _ _ _ _ _ _
   | exact ih3 _ _ _ _ _ _ _ _
   | exact ih4 _ _ _ _ _
   | exact dialtonelaw34_sane.mono _
   | exact dialtoneref34_Attempts.mono _ _
   | exact dialtoneref34_Made.mono _ _ _
   | exact dialtoneref34_Same.mono _ _ _
   | exact LeO.none _
   | refine LeO.ite ?_ ?_
   | refine LeO.bind ?_ (fun _ => ?_)
def dialtonelaw34_RecoveryStorms.T7 : Bool × List (List Nat × List Nat) := (true, [([], []), ([], []), ([], []), ([2], [2]), ([3], [3]), ([0, 1, 4, 3], [0, 1, 4]), ([5], [5]), ([6], [6]), ([6], [6]), ([6], [6]), ([7, 5, 0, 1, 2, 3, 4, 5, 6, 7], [7]), ([8, 10, 0, 1, 2, 3, 4, 5, 6, 7, 8, 10], [8]), ([9, 11, 0, 1, 2, 3, 4, 5, 6, 7, 8, 9, 10, 11], [9])])
def dialtonelaw34_RecoveryStorms.B7 : List Nat := [0, 0, 0, 4, 12, 31, 63, 127, 127, 127, 255, 1535, 4095]
theorem dialtonelaw34_RecoveryStorms.tab7 : rtab .any (opsOf Try.f3 7) = dialtonelaw34_RecoveryStorms.T7 := by kernel_rfl
theorem dialtonelaw34_RecoveryStorms.bits7 : waitsOk dialtonelaw34_RecoveryStorms.T7.2 dialtonelaw34_RecoveryStorms.B7 = true := by kernel_rfl
def dialtonelaw34_RecoveryStorms.T19 : Bool × List (List Nat × List Nat) := (true, [([], []), ([], []), ([0, 1], [0, 1]), ([2], [2]), ([3], [3]), ([], []), ([], []), ([5, 6], [5, 6]), ([7], [7]), ([8], [8]), ([4, 9], [4, 9]), ([10], [10]), ([11], [11]), ([12, 11], [11, 12]), ([13, 11, 11], [11, 13]), ([14], [14]), ([14], [14]), ([15, 16, 14], [14, 15, 16]), ([17, 14], [14, 17]), ([18, 14], [14, 18]), ([14], [14]), ([19, 20, 14], [14, 19, 20]), ([14, 21, 11], [11, 14, 21]), ([11, 22], [11, 22])])
def dialtonelaw34_RecoveryStorms.B19 : List Nat := [0, 0, 3, 7, 15, 0, 0, 96, 224, 480, 1023, 2047, 4095, 8191, 16383, 32767, 32767, 131071, 262143, 524287, 32767, 2097151, 4194303, 8388607]
theorem dialtonelaw34_RecoveryStorms.tab19 : rtab .any (opsOf Try.f3 19) = dialtonelaw34_RecoveryStorms.T19 := by kernel_rfl
theorem dialtonelaw34_RecoveryStorms.bits19 : waitsOk dialtonelaw34_RecoveryStorms.T19.2 dialtonelaw34_RecoveryStorms.B19 = true := by kernel_rfl
set_option maxHeartbeats 8000000 in
set_option maxRecDepth 100000 in
theorem dialtonelaw34_RecoveryStorms.calls (k : Nat) (A0 : Option Addr) (c0 : Nat) (l0 : List (S71)) (a1 : Int) (A2 : Option Addr) (c2 : Nat) (l2 : List (S71)) (a3 : Int) (a4 : Int) (r : Bool) (w : World) (hr0 : Kd.C k71 w A0 l0.length l0) (hc0 : l0.length ≤ c0) (hr2 : Kd.C k71 w A2 l2.length l2) (hc2 : l2.length ≤ c2) (h : dialtonelaw34_RecoveryStorms.f k l0 a1 l2 a3 a4 = some r) :
  Calls Try.prog 3 #[.slice A0 l0.length c0, .int .i64 a1, .slice A2 l2.length c2, .int .i64 a3, .int .i64 a4] w fun e w' => e = .returned (.bool r) ∧ Below w.heap.size w w' := by
 have hu26 := Try.underlying26
 have HR0 := Aside0.mk hr0
 have HC0 := Aside0.mk hc0
 clear hr0 hc0
 have HR2 := Aside0.mk hr2
 have HC2 := Aside0.mk hc2
 clear hr2 hc2
 have HB := Aside0.mk (Below.refl w.heap.size w)
 have H : ((dialtonelaw34_sane.f k).bind fun t233 => (if t233 = true then ((dialtoneref34_Made.f k l0 a1).bind fun bt234 => ((dialtoneref34_Attempts.f k l2).bind fun t239 => ((recovery_Plan.f bt234.1 bt234.2 t239).bind fun bt242 => ((dialtonelaw34_pick.f a3 6).bind fun t246 => ((recovery_Storm.f bt234.1 bt234.2 t239 (wrap64 (1 + t246))).bind fun bt247 => ((recovery_Storm.f bt234.1 bt234.2 t239 1).bind fun bt252 => (if bt242.2 = 0 then (if bt247.2.2 = 0 then (if bt252.2.2 = 0 then (if bt252.2.1 < 0 then ((dialtoneref34_Same.f k bt252.1 bt242.1).bind fun t257 => (if t257 = true then (if bt247.2.1 < 0 then (dialtonelaw34_RecoveryStorms.j0 k a4 bt242.1 bt247.1 bt247.2.1 ((bt247.1.length : Int) != (t239.length : Int))) else (dialtonelaw34_RecoveryStorms.j0 k a4 bt242.1 bt247.1 bt247.2.1 false)) else (dialtonelaw34_RecoveryStorms.j0 k a4 bt242.1 bt247.1 bt247.2.1 true))) else (if bt247.2.1 < 0 then (dialtonelaw34_RecoveryStorms.j0 k a4 bt242.1 bt247.1 bt247.2.1 ((bt247.1.length : Int) != (t239.length : Int))) else (dialtonelaw34_RecoveryStorms.j0 k a4 bt242.1 bt247.1 bt247.2.1 false))) else (dialtonelaw34_RecoveryStorms.j0 k a4 bt242.1 bt247.1 bt247.2.1 true)) else (dialtonelaw34_RecoveryStorms.j0 k a4 bt242.1 bt247.1 bt247.2.1 true)) else (dialtonelaw34_RecoveryStorms.j0 k a4 bt242.1 bt247.1 bt247.2.1 true)))))))) else (none))) = some r := h
 clear h
 replace H := Option.bind_eq_some_iff.mp H
 obtain ⟨t233, A60, H⟩ := H
 replace H : (if t233 = true then ((dialtoneref34_Made.f k l0 a1).bind fun bt234 => ((dialtoneref34_Attempts.f k l2).bind fun t239 => ((recovery_Plan.f bt234.1 bt234.2 t239).bind fun bt242 => ((dialtonelaw34_pick.f a3 6).bind fun t246 => ((recovery_Storm.f bt234.1 bt234.2 t239 (wrap64 (1 + t246))).bind fun bt247 => ((recovery_Storm.f bt234.1 bt234.2 t239 1).bind fun bt252 => (if bt242.2 = 0 then (if bt247.2.2 = 0 then (if bt252.2.2 = 0 then (if bt252.2.1 < 0 then ((dialtoneref34_Same.f k bt252.1 bt242.1).bind fun t257 => (if t257 = true then (if bt247.2.1 < 0 then (dialtonelaw34_RecoveryStorms.j0 k a4 bt242.1 bt247.1 bt247.2.1 ((bt247.1.length : Int) != (t239.length : Int))) else (dialtonelaw34_RecoveryStorms.j0 k a4 bt242.1 bt247.1 bt247.2.1 false)) else (dialtonelaw34_RecoveryStorms.j0 k a4 bt242.1 bt247.1 bt247.2.1 true))) else (if bt247.2.1 < 0 then (dialtonelaw34_RecoveryStorms.j0 k a4 bt242.1 bt247.1 bt247.2.1 ((bt247.1.length : Int) != (t239.length : Int))) else (dialtonelaw34_RecoveryStorms.j0 k a4 bt242.1 bt247.1 bt247.2.1 false))) else (dialtonelaw34_RecoveryStorms.j0 k a4 bt242.1 bt247.1 bt247.2.1 true)) else (dialtonelaw34_RecoveryStorms.j0 k a4 bt242.1 bt247.1 bt247.2.1 true)) else (dialtonelaw34_RecoveryStorms.j0 k a4 bt242.1 bt247.1 bt247.2.1 true)))))))) else (none)) = some r := H
 have A6 := Aside0.mk A60
 clear A60
 by_cases c7 : t233 = true
 ·
  subst c7
  have H1 : ((dialtoneref34_Made.f k l0 a1).bind fun bt234 => ((dialtoneref34_Attempts.f k l2).bind fun t239 => ((recovery_Plan.f bt234.1 bt234.2 t239).bind fun bt242 => ((dialtonelaw34_pick.f a3 6).bind fun t246 => ((recovery_Storm.f bt234.1 bt234.2 t239 (wrap64 (1 + t246))).bind fun bt247 => ((recovery_Storm.f bt234.1 bt234.2 t239 1).bind fun bt252 => (if bt242.2 = 0 then (if bt247.2.2 = 0 then (if bt252.2.2 = 0 then (if bt252.2.1 < 0 then ((dialtoneref34_Same.f k bt252.1 bt242.1).bind fun t257 => (if t257 = true then (if bt247.2.1 < 0 then (dialtonelaw34_RecoveryStorms.j0 k a4 bt242.1 bt247.1 bt247.2.1 ((bt247.1.length : Int) != (t239.length : Int))) else (dialtonelaw34_RecoveryStorms.j0 k a4 bt242.1 bt247.1 bt247.2.1 false)) else (dialtonelaw34_RecoveryStorms.j0 k a4 bt242.1 bt247.1 bt247.2.1 true))) else (if bt247.2.1 < 0 then (dialtonelaw34_RecoveryStorms.j0 k a4 bt242.1 bt247.1 bt247.2.1 ((bt247.1.length : Int) != (t239.length : Int))) else (dialtonelaw34_RecoveryStorms.j0 k a4 bt242.1 bt247.1 bt247.2.1 false))) else (dialtonelaw34_RecoveryStorms.j0 k a4 bt242.1 bt247.1 bt247.2.1 true)) else (dialtonelaw34_RecoveryStorms.j0 k a4 bt242.1 bt247.1 bt247.2.1 true)) else (dialtonelaw34_RecoveryStorms.j0 k a4 bt242.1 bt247.1 bt247.2.1 true)))))))) = some r := by rw [if_pos rfl] at H; exact H
  clear H
  have H := H1
  clear H1
  replace H := Option.bind_eq_some_iff.mp H
  obtain ⟨⟨t234, t237⟩, A80, H⟩ := H
  replace H : ((dialtoneref34_Attempts.f k l2).bind fun t239 => ((recovery_Plan.f t234 t237 t239).bind fun bt242 => ((dialtonelaw34_pick.f a3 6).bind fun t246 => ((recovery_Storm.f t234 t237 t239 (wrap64 (1 + t246))).bind fun bt247 => ((recovery_Storm.f t234 t237 t239 1).bind fun bt252 => (if bt242.2 = 0 then (if bt247.2.2 = 0 then (if bt252.2.2 = 0 then (if bt252.2.1 < 0 then ((dialtoneref34_Same.f k bt252.1 bt242.1).bind fun t257 => (if t257 = true then (if bt247.2.1 < 0 then (dialtonelaw34_RecoveryStorms.j0 k a4 bt242.1 bt247.1 bt247.2.1 ((bt247.1.length : Int) != (t239.length : Int))) else (dialtonelaw34_RecoveryStorms.j0 k a4 bt242.1 bt247.1 bt247.2.1 false)) else (dialtonelaw34_RecoveryStorms.j0 k a4 bt242.1 bt247.1 bt247.2.1 true))) else (if bt247.2.1 < 0 then (dialtonelaw34_RecoveryStorms.j0 k a4 bt242.1 bt247.1 bt247.2.1 ((bt247.1.length : Int) != (t239.length : Int))) else (dialtonelaw34_RecoveryStorms.j0 k a4 bt242.1 bt247.1 bt247.2.1 false))) else (dialtonelaw34_RecoveryStorms.j0 k a4 bt242.1 bt247.1 bt247.2.1 true)) else (dialtonelaw34_RecoveryStorms.j0 k a4 bt242.1 bt247.1 bt247.2.1 true)) else (dialtonelaw34_RecoveryStorms.j0 k a4 bt242.1 bt247.1 bt247.2.1 true))))))) = some r := H
  have A8 := Aside0.mk A80
  clear A80
  replace H := Option.bind_eq_some_iff.mp H
  obtain ⟨t239, A90, H⟩ := H
  replace H : ((recovery_Plan.f t234 t237 t239).bind fun bt242 => ((dialtonelaw34_pick.f a3 6).bind fun t246 => ((recovery_Storm.f t234 t237 t239 (wrap64 (1 + t246))).bind fun bt247 => ((recovery_Storm.f t234 t237 t239 1).bind fun bt252 => (if bt242.2 = 0 then (if bt247.2.2 = 0 then (if bt252.2.2 = 0 then (if bt252.2.1 < 0 then ((dialtoneref34_Same.f k bt252.1 bt242.1).bind fun t257 => (if t257 = true then (if bt247.2.1 < 0 then (dialtonelaw34_RecoveryStorms.j0 k a4 bt242.1 bt247.1 bt247.2.1 ((bt247.1.length : Int) != (t239.length : Int))) else (dialtonelaw34_RecoveryStorms.j0 k a4 bt242.1 bt247.1 bt247.2.1 false)) else (dialtonelaw34_RecoveryStorms.j0 k a4 bt242.1 bt247.1 bt247.2.1 true))) else (if bt247.2.1 < 0 then (dialtonelaw34_RecoveryStorms.j0 k a4 bt242.1 bt247.1 bt247.2.1 ((bt247.1.length : Int) != (t239.length : Int))) else (dialtonelaw34_RecoveryStorms.j0 k a4 bt242.1 bt247.1 bt247.2.1 false))) else (dialtonelaw34_RecoveryStorms.j0 k a4 bt242.1 bt247.1 bt247.2.1 true)) else (dialtonelaw34_RecoveryStorms.j0 k a4 bt242.1 bt247.1 bt247.2.1 true)) else (dialtonelaw34_RecoveryStorms.j0 k a4 bt242.1 bt247.1 bt247.2.1 true)))))) = some r := H
  have A9 := Aside0.mk A90
  clear A90
  replace H := Option.bind_eq_some_iff.mp H
  obtain ⟨⟨t242, t245⟩, A100, H⟩ := H
  replace H : ((dialtonelaw34_pick.f a3 6).bind fun t246 => ((recovery_Storm.f t234 t237 t239 (wrap64 (1 + t246))).bind fun bt247 => ((recovery_Storm.f t234 t237 t239 1).bind fun bt252 => (if t245 = 0 then (if bt247.2.2 = 0 then (if bt252.2.2 = 0 then (if bt252.2.1 < 0 then ((dialtoneref34_Same.f k bt252.1 t242).bind fun t257 => (if t257 = true then (if bt247.2.1 < 0 then (dialtonelaw34_RecoveryStorms.j0 k a4 t242 bt247.1 bt247.2.1 ((bt247.1.length : Int) != (t239.length : Int))) else (dialtonelaw34_RecoveryStorms.j0 k a4 t242 bt247.1 bt247.2.1 false)) else (dialtonelaw34_RecoveryStorms.j0 k a4 t242 bt247.1 bt247.2.1 true))) else (if bt247.2.1 < 0 then (dialtonelaw34_RecoveryStorms.j0 k a4 t242 bt247.1 bt247.2.1 ((bt247.1.length : Int) != (t239.length : Int))) else (dialtonelaw34_RecoveryStorms.j0 k a4 t242 bt247.1 bt247.2.1 false))) else (dialtonelaw34_RecoveryStorms.j0 k a4 t242 bt247.1 bt247.2.1 true)) else (dialtonelaw34_RecoveryStorms.j0 k a4 t242 bt247.1 bt247.2.1 true)) else (dialtonelaw34_RecoveryStorms.j0 k a4 t242 bt247.1 bt247.2.1 true))))) = some r := H
  have A10 := Aside0.mk A100
  clear A100
  replace H := Option.bind_eq_some_iff.mp H
  obtain ⟨t246, A110, H⟩ := H
  replace H : ((recovery_Storm.f t234 t237 t239 (wrap64 (1 + t246))).bind fun bt247 => ((recovery_Storm.f t234 t237 t239 1).bind fun bt252 => (if t245 = 0 then (if bt247.2.2 = 0 then (if bt252.2.2 = 0 then (if bt252.2.1 < 0 then ((dialtoneref34_Same.f k bt252.1 t242).bind fun t257 => (if t257 = true then (if bt247.2.1 < 0 then (dialtonelaw34_RecoveryStorms.j0 k a4 t242 bt247.1 bt247.2.1 ((bt247.1.length : Int) != (t239.length : Int))) else (dialtonelaw34_RecoveryStorms.j0 k a4 t242 bt247.1 bt247.2.1 false)) else (dialtonelaw34_RecoveryStorms.j0 k a4 t242 bt247.1 bt247.2.1 true))) else (if bt247.2.1 < 0 then (dialtonelaw34_RecoveryStorms.j0 k a4 t242 bt247.1 bt247.2.1 ((bt247.1.length : Int) != (t239.length : Int))) else (dialtonelaw34_RecoveryStorms.j0 k a4 t242 bt247.1 bt247.2.1 false))) else (dialtonelaw34_RecoveryStorms.j0 k a4 t242 bt247.1 bt247.2.1 true)) else (dialtonelaw34_RecoveryStorms.j0 k a4 t242 bt247.1 bt247.2.1 true)) else (dialtonelaw34_RecoveryStorms.j0 k a4 t242 bt247.1 bt247.2.1 true)))) = some r := H
  have A11 := Aside0.mk A110
  clear A110
  replace H := Option.bind_eq_some_iff.mp H
  obtain ⟨⟨t247, t250, t251⟩, A120, H⟩ := H
  replace H : ((recovery_Storm.f t234 t237 t239 1).bind fun bt252 => (if t245 = 0 then (if t251 = 0 then (if bt252.2.2 = 0 then (if bt252.2.1 < 0 then ((dialtoneref34_Same.f k bt252.1 t242).bind fun t257 => (if t257 = true then (if t250 < 0 then (dialtonelaw34_RecoveryStorms.j0 k a4 t242 t247 t250 ((t247.length : Int) != (t239.length : Int))) else (dialtonelaw34_RecoveryStorms.j0 k a4 t242 t247 t250 false)) else (dialtonelaw34_RecoveryStorms.j0 k a4 t242 t247 t250 true))) else (if t250 < 0 then (dialtonelaw34_RecoveryStorms.j0 k a4 t242 t247 t250 ((t247.length : Int) != (t239.length : Int))) else (dialtonelaw34_RecoveryStorms.j0 k a4 t242 t247 t250 false))) else (dialtonelaw34_RecoveryStorms.j0 k a4 t242 t247 t250 true)) else (dialtonelaw34_RecoveryStorms.j0 k a4 t242 t247 t250 true)) else (dialtonelaw34_RecoveryStorms.j0 k a4 t242 t247 t250 true))) = some r := H
  have A12 := Aside0.mk A120
  clear A120
  replace H := Option.bind_eq_some_iff.mp H
  obtain ⟨⟨t252, t255, t256⟩, A130, H⟩ := H
  replace H : (if t245 = 0 then (if t251 = 0 then (if t256 = 0 then (if t255 < 0 then ((dialtoneref34_Same.f k t252 t242).bind fun t257 => (if t257 = true then (if t250 < 0 then (dialtonelaw34_RecoveryStorms.j0 k a4 t242 t247 t250 ((t247.length : Int) != (t239.length : Int))) else (dialtonelaw34_RecoveryStorms.j0 k a4 t242 t247 t250 false)) else (dialtonelaw34_RecoveryStorms.j0 k a4 t242 t247 t250 true))) else (if t250 < 0 then (dialtonelaw34_RecoveryStorms.j0 k a4 t242 t247 t250 ((t247.length : Int) != (t239.length : Int))) else (dialtonelaw34_RecoveryStorms.j0 k a4 t242 t247 t250 false))) else (dialtonelaw34_RecoveryStorms.j0 k a4 t242 t247 t250 true)) else (dialtonelaw34_RecoveryStorms.j0 k a4 t242 t247 t250 true)) else (dialtonelaw34_RecoveryStorms.j0 k a4 t242 t247 t250 true)) = some r := H
  have A13 := Aside0.mk A130
  clear A130
  have HC14 := Aside0.mk H
  clear H
  go_enter Try.func3, Try.ntmps3
  try go_wp2_with (first | ((with_reducible refine gate_callee (f := 13) rfl ?_); refine goesL_ (some 27) rfl rfl Try.func13 (by kernel_rfl) rfl #[] rfl (by (try simp only [List.map_toArray, List.map_cons, List.map_nil]); first | done | rfl | (simp only [List.length_drop, List.length_take]; rfl)) ?_; (with_reducible refine (dialtonelaw34_sane.calls k  true _ A6.out).mono ?_); rintro e w15 ⟨rfl, hb⟩; refine ⟨_, rfl, ?_⟩; have n0_ := Aside0.mk (below_step (by repeat (first | (with_reducible first | exact HB.out | apply below_alloc | apply pw_below_drewN | apply below_drew1) | exact HB.out)) hb); clear HB; have HB := n0_; clear n0_; (try clear hb); (try clear hb2); (try clear hk); (try clear hi)) | ((with_reducible refine gate_callee (f := 14) rfl ?_); refine goesL_ (some 32) rfl rfl Try.func14 (by kernel_rfl) rfl #[.slice A0 l0.length c0, .int .i64 a1] rfl (by (try simp only [List.map_toArray, List.map_cons, List.map_nil]); first | done | rfl | (simp only [List.length_drop, List.length_take]; rfl)) ?_; (with_reducible refine (dialtoneref34_Made.calls k _ _ l0 a1 t234 t237 _ ?side1 ?side2 A8.out).mono ?_); (case side1 => repeat (first | exact (Kd.C_below HR0.out HB.out) | (with_reducible refine Kd.C_alloc ?_ _) | (with_reducible refine Kd.C_drewN ?_ _) | (with_reducible refine Kd.C_drew ?_))); (case side2 => exact HC0.out); rintro e w16 ⟨v235, rfl, ho0, hb⟩; refine ⟨_, rfl, ?_⟩; have n0_ := Aside0.mk (Kd.R_lower ho0 (below_size (by repeat (first | (with_reducible first | exact HB.out | apply below_alloc | apply pw_below_drewN | apply below_drew1) | exact HB.out)))); have n1_ := Aside0.mk (below_step (by repeat (first | (with_reducible first | exact HB.out | apply below_alloc | apply pw_below_drewN | apply below_drew1) | exact HB.out)) hb); clear HB; have HO236 := n0_; have HB := n1_; clear n0_ n1_; (try clear hb); (try clear hb2); (try clear hk); (try clear hi); (try clear ho0)) | ((with_reducible refine gate_dst (N := 12) rfl ?_); (try (refine gate_guard (by rfl) ?_; dsimp only)); refine box_event ?hg (N := 12) ?hd (cs := #[.slice none 0 0, .int .i64 0]) (t := 26) ?hr ?_; (case hd => rfl); (case hg => rfl); (case hr => first | (go_simp; done) | (go_simp; rfl)); intro gb238 hg w17 hbox hb; have n0_ := Aside0.mk (Kd.R_below (by (with_reducible repeat (first | apply Kd.R_alloc | apply Kd.R_drewN | apply Kd.R_drew)); exact HO236.out) hb); have n1_ := Aside0.mk (below_step (by repeat (first | (with_reducible first | exact HB.out | apply below_alloc | apply pw_below_drewN | apply below_drew1) | exact HB.out)) hb); have n2_ := Aside0.mk (hbox); have n3_ := Aside0.mk ((by rw [hg]; exact (below_size (by repeat (first | (with_reducible first | exact HB.out | apply below_alloc | apply pw_below_drewN | apply below_drew1) | exact HB.out))) : w.heap.size ≤ gb238)); have n4_ := Aside0.mk ((by rw [hg]; exact (below_size (by repeat (first | (with_reducible first | exact HB.out | apply below_alloc | apply pw_below_drewN | apply below_drew1) | exact HB.out))) : w.heap.size ≤ gb238)); clear HO236; clear HB; have HO236 := n0_; have HB := n1_; have BK238 := n2_; have GW238 := n3_; have GE238 := n4_; clear n0_ n1_ n2_ n3_ n4_; clear hb hbox hg; obtain ⟨Ao18, co18, eo18⟩ := Kd.R_slice HO236.out; subst eo18; have hcz19_0 : w17.cell? ⟨gb238, 0, none⟩ = some (.slice none 0 0) := (blk_cell BK238.out 0).trans rfl; have hcz19_1 : w17.cell? ⟨gb238, 1, none⟩ = some (.int .i64 0) := (blk_cell BK238.out 1).trans rfl; have hfz19_0 := blk_frozen BK238.out 0; have hfz19_1 := blk_frozen BK238.out 1) | ((with_reducible refine gate_callee (f := 15) rfl ?_); refine goesL_ (some 34) rfl rfl Try.func15 (by kernel_rfl) rfl #[.slice A2 l2.length c2] rfl (by (try simp only [List.map_toArray, List.map_cons, List.map_nil]); first | done | rfl | (simp only [List.length_drop, List.length_take]; rfl)) ?_; (with_reducible refine (dialtoneref34_Attempts.calls k _ _ l2 t239 _ ?side1 ?side2 A9.out).mono ?_); (case side1 => exact Kd.C_below HR2.out (by repeat (first | (with_reducible first | exact HB.out | apply below_alloc | apply pw_below_drewN | apply below_drew1 | refine below_set ?_ GE238.out) | exact HB.out))); (case side2 => exact HC2.out); rintro e w20 ⟨v240, rfl, ho0, hb⟩; refine ⟨_, rfl, ?_⟩; have n0_ := Aside0.mk (Kd.R_below (by (with_reducible repeat (first | apply Kd.R_alloc | apply Kd.R_drewN | apply Kd.R_drew)); exact (Kd.R_mono (Kd.R_far (p := ⟨gb238, 1, none⟩) (Kd.R_far (p := ⟨gb238, 0, none⟩) (Kd.R_types HO236.out BK238.out (by decide)) (fun _ hk => hk.2) (.slice Ao18 t234.length co18)) (fun _ hk => hk.2) (.int .i64 t237)) (fun _ h_ => h_.1))) hb); have n1_ := Aside0.mk (Kd.R_lower ho0 (below_size (by repeat (first | (with_reducible first | exact HB.out | apply below_alloc | apply pw_below_drewN | apply below_drew1 | refine below_set ?_ GE238.out) | exact HB.out)))); have n2_ := Aside0.mk (blk_below (g := gb238) (o := .cells #[.slice Ao18 t234.length co18, .int .i64 t237] 26 (0, 0)) (by (with_reducible repeat (first | refine blk_drewN ?_ _ | refine blk_drew ?_ | refine blk_alloc ?_ _)); refine blk_put (cs := #[.slice Ao18 t234.length co18, .int .i64 0]) ?_ 1 _ rfl; (with_reducible repeat (first | refine blk_drewN ?_ _ | refine blk_drew ?_ | refine blk_alloc ?_ _)); refine blk_put (cs := #[.slice none 0 0, .int .i64 0]) ?_ 0 _ rfl; (with_reducible repeat (first | refine blk_drewN ?_ _ | refine blk_drew ?_ | refine blk_alloc ?_ _)); exact BK238.out) hb); have n3_ := Aside0.mk (below_step (by repeat (first | (with_reducible first | exact HB.out | apply below_alloc | apply pw_below_drewN | apply below_drew1 | refine below_set ?_ GE238.out) | exact HB.out)) hb); clear HO236; clear BK238; clear HB; have HO236 := n0_; have HO241 := n1_; have BK238 := n2_; have HB := n3_; clear n0_ n1_ n2_ n3_; (try clear hb); (try clear hb2); (try clear hk); (try clear hi); (try clear ho0); have hcz21_0 : w20.cell? ⟨gb238, 0, none⟩ = some (.slice Ao18 t234.length co18) := (blk_cell BK238.out 0).trans rfl; have hcz21_1 : w20.cell? ⟨gb238, 1, none⟩ = some (.int .i64 t237) := (blk_cell BK238.out 1).trans rfl; have hfz21_0 := blk_frozen BK238.out 0; have hfz21_1 := blk_frozen BK238.out 1; obtain ⟨Ao22, co22, eo22⟩ := Kd.R_slice HO241.out; subst eo22) | ((with_reducible refine gate_callee (f := 16) rfl ?_); refine goesL_ (some 38) rfl rfl Try.func16 (by kernel_rfl) rfl #[.agg #[.slice Ao18 t234.length co18, .int .i64 t237], .slice Ao22 t239.length co22] rfl (by (try simp only [List.map_toArray, List.map_cons, List.map_nil]); first | done | rfl | (simp only [List.length_drop, List.length_take]; rfl)) ?_; (with_reducible refine (recovery_Plan.calls _ _ t234 t237 _ _ t239 t242 t245 _ ?side1 ?side2 ?side3 ?side4 A10.out).mono ?_); (case side1 => repeat (first | exact (Kd.R_reads' HO236.out).2.2 | (with_reducible refine Kd.C_alloc ?_ _) | (with_reducible refine Kd.C_drewN ?_ _) | (with_reducible refine Kd.C_drew ?_))); (case side2 => exact (Kd.R_reads' HO236.out).2.1); (case side3 => repeat (first | exact (Kd.R_reads' HO241.out).2.2 | (with_reducible refine Kd.C_alloc ?_ _) | (with_reducible refine Kd.C_drewN ?_ _) | (with_reducible refine Kd.C_drew ?_))); (case side4 => exact (Kd.R_reads' HO241.out).2.1); rintro e w23 ⟨v243, rfl, ho0, hb⟩; refine ⟨_, rfl, ?_⟩; have n0_ := Aside0.mk (Kd.R_below (by (with_reducible repeat (first | apply Kd.R_alloc | apply Kd.R_drewN | apply Kd.R_drew)); exact HO236.out) hb); have n1_ := Aside0.mk (Kd.R_below (by (with_reducible repeat (first | apply Kd.R_alloc | apply Kd.R_drewN | apply Kd.R_drew)); exact HO241.out) hb); have n2_ := Aside0.mk (Kd.R_lower ho0 (below_size (by repeat (first | (with_reducible first | exact HB.out | apply below_alloc | apply pw_below_drewN | apply below_drew1 | refine below_set ?_ GE238.out) | exact HB.out)))); have n3_ := Aside0.mk (blk_below (g := gb238) (o := .cells #[.slice Ao18 t234.length co18, .int .i64 t237] 26 (0, 0)) (by (with_reducible repeat (first | refine blk_drewN ?_ _ | refine blk_drew ?_ | refine blk_alloc ?_ _)); exact BK238.out) hb); have n4_ := Aside0.mk (below_step (by repeat (first | (with_reducible first | exact HB.out | apply below_alloc | apply pw_below_drewN | apply below_drew1 | refine below_set ?_ GE238.out) | exact HB.out)) hb); clear HO236; clear HO241; clear BK238; clear HB; have HO236 := n0_; have HO241 := n1_; have HO244 := n2_; have BK238 := n3_; have HB := n4_; clear n0_ n1_ n2_ n3_ n4_; (try clear hb); (try clear hb2); (try clear hk); (try clear hi); (try clear ho0)))
  have n0_ := Aside0.mk (Kd.R_drew HO236.out)
  have n1_ := Aside0.mk (Kd.R_drew HO241.out)
  have n2_ := Aside0.mk (Kd.R_drew HO244.out)
  have n3_ := Aside0.mk (blk_drew BK238.out)
  have n4_ := Aside0.mk (below_drew1 HB.out)
  clear HO236
  clear HO241
  clear HO244
  clear BK238
  clear HB
  have HO236 := n0_
  have HO241 := n1_
  have HO244 := n2_
  have BK238 := n3_
  have HB := n4_
  clear n0_ n1_ n2_ n3_ n4_
  refine start_ (n := 13) (S := fun w' => w'.cell? ⟨gb238, 0, none⟩ = some (.slice Ao18 t234.length co18) ∧ w'.cell? ⟨gb238, 1, none⟩ = some (.int .i64 t237)) (ds := []) #[false, false, false, false, false, false, false, false, false, false, false, false, false] (by kernel_rfl) rfl rfl ⟨(blk_cell BK238.out 0).trans rfl, (blk_cell BK238.out 1).trans rfl⟩ (fun hHeld => ?_); refine with_tabW dialtonelaw34_RecoveryStorms.tab7 dialtonelaw34_RecoveryStorms.bits7 (fun HT_ HW_ => ?_)
  generalize w23.drew = w24 at HO236 HO241 HO244 BK238 HB hHeld ⊢
  refine pure_ (i := 1) (N := some 43) (v := ?_) (a' := ?_) #[false, true, false, false, false, false, false, false, false, false, false, false, false] rfl rfl (any_of HT_.out (by kernel_rfl)) (fun _ _ _ h => h) (Or.inl ⟨by rfl, ?_⟩) ?_ ?_
  rotate_left
  ·
   intro w'
   go_simp
   with_reducible rfl
  rotate_left
  ·
   simp only [Act.put, List.setIfInBounds_toArray, List.set_cons_zero, List.set_cons_succ, i64_w, i32_w]
   rfl
  refine pure_ (i := 2) (N := some 44) (v := ?_) (a' := ?_) #[false, true, true, false, false, false, false, false, false, false, false, false, false] rfl rfl (any_of HT_.out (by kernel_rfl)) (fun _ _ _ h => h) (Or.inl ⟨by rfl, ?_⟩) ?_ ?_
  rotate_left
  ·
   intro w'
   go_simp
   with_reducible rfl
  rotate_left
  ·
   simp only [Act.put, List.setIfInBounds_toArray, List.set_cons_zero, List.set_cons_succ, i64_w, i32_w]
   rfl
  refine take_ (i := 0) (N := some 42) (v := ?_) (a' := ?_) #[true, true, true, false, false, false, false, false, false, false, false, false, false] rfl rfl (take_ofW HT_.out HW_.out (by kernel_rfl)) (fun _ _ _ h => h) (Or.inl ⟨by rfl, ?_⟩) hHeld ?_ ?_
  rotate_left
  ·
   rintro w' ⟨s0, s1⟩
   go_simp
   with_reducible rfl
  rotate_left
  ·
   simp only [Act.put, List.setIfInBounds_toArray, List.set_cons_zero, List.set_cons_succ, i64_w, i32_w]
   rfl
  refine one_ (i := 3) (N := some 45) #[true, true, true, true, false, false, false, false, false, false, false, false, false] rfl rfl (one_of HT_.out (by kernel_rfl)) (by decide) (fun K hK => ?_)
  refine goes_ Try.func18 (by kernel_rfl) rfl #[.int .i64 a3, .int .i64 6] (by rfl) rfl rfl (by (try simp only [List.map_toArray, List.map_cons, List.map_nil]); first | done | rfl | (simp only [List.length_drop, List.length_take]; rfl)) ?_
  with_reducible refine (dialtonelaw34_pick.calls a3 6 t246 _ A11.out).mono ?_
  rintro e w25 ⟨rfl, hb⟩
  refine ⟨_, rfl, ?_⟩
  have n0_ := Aside0.mk (Kd.R_below (by (with_reducible repeat (first | apply Kd.R_alloc | apply Kd.R_drewN | apply Kd.R_drew)); exact HO236.out) hb)
  have n1_ := Aside0.mk (Kd.R_below (by (with_reducible repeat (first | apply Kd.R_alloc | apply Kd.R_drewN | apply Kd.R_drew)); exact HO241.out) hb)
  have n2_ := Aside0.mk (Kd.R_below (by (with_reducible repeat (first | apply Kd.R_alloc | apply Kd.R_drewN | apply Kd.R_drew)); exact HO244.out) hb)
  have n3_ := Aside0.mk (blk_below (g := gb238) (o := .cells #[.slice Ao18 t234.length co18, .int .i64 t237] 26 (0, 0)) (by (with_reducible repeat (first | refine blk_drewN ?_ _ | refine blk_drew ?_ | refine blk_alloc ?_ _)); exact BK238.out) hb)
  have n4_ := Aside0.mk (below_step (by repeat (first | (with_reducible first | exact HB.out | apply below_alloc | apply pw_below_drewN | apply below_drew1 | refine below_set ?_ GE238.out) | exact HB.out)) hb)
  clear HO236
  clear HO241
  clear HO244
  clear BK238
  clear HB
  have HO236 := n0_
  have HO241 := n1_
  have HO244 := n2_
  have BK238 := n3_
  have HB := n4_
  clear n0_ n1_ n2_ n3_ n4_
  (try clear hb)
  (try clear hb2)
  (try clear hk)
  (try clear hi)
  refine hK.out _ _ ⟨(blk_cell BK238.out 0).trans rfl, (blk_cell BK238.out 1).trans rfl⟩ (fun hHeld => ?_)
  clear hK K
  refine norm_ (a' := ?_) ?_ ?_
  rotate_left
  ·
   show Act.put _ (some 45) _ = _
   simp only [Act.put, List.setIfInBounds_toArray, List.set_cons_zero, List.set_cons_succ, i64_w, i32_w]
   rfl
  refine pure_ (i := 4) (N := some 46) (v := ?_) (a' := ?_) #[true, true, true, true, true, false, false, false, false, false, false, false, false] rfl rfl (any_of HT_.out (by kernel_rfl)) (fun _ _ _ h => h) (Or.inl ⟨by rfl, ?_⟩) ?_ ?_
  rotate_left
  ·
   intro w'
   go_simp
   with_reducible rfl
  rotate_left
  ·
   simp only [Act.put, List.setIfInBounds_toArray, List.set_cons_zero, List.set_cons_succ, i64_w, i32_w]
   rfl
  refine one_ (i := 5) (N := some 47) #[true, true, true, true, true, true, false, false, false, false, false, false, false] rfl rfl (one_of HT_.out (by kernel_rfl)) (by decide) (fun K hK => ?_)
  refine goes_ Try.func17 (by kernel_rfl) rfl #[.agg #[.slice Ao18 t234.length co18, .int .i64 t237], .slice Ao22 t239.length co22, .int .i64 (wrap64 (1 + t246))] (by rfl) rfl rfl (by (try simp only [List.map_toArray, List.map_cons, List.map_nil]); first | done | rfl | (simp only [List.length_drop, List.length_take]; rfl)) ?_
  with_reducible refine (recovery_Storm.calls _ _ t234 t237 _ _ t239 (wrap64 (1 + t246)) t247 t250 t251 _ ?side1 ?side2 ?side3 ?side4 A12.out).mono ?_
  (case side1 => repeat (first | exact (Kd.R_reads' HO236.out).2.2 | (with_reducible refine Kd.C_alloc ?_ _) | (with_reducible refine Kd.C_drewN ?_ _) | (with_reducible refine Kd.C_drew ?_)))
  (case side2 => exact (Kd.R_reads' HO236.out).2.1)
  (case side3 => repeat (first | exact (Kd.R_reads' HO241.out).2.2 | (with_reducible refine Kd.C_alloc ?_ _) | (with_reducible refine Kd.C_drewN ?_ _) | (with_reducible refine Kd.C_drew ?_)))
  (case side4 => exact (Kd.R_reads' HO241.out).2.1)
  rintro e w26 ⟨v248, rfl, ho0, hb⟩
  refine ⟨_, rfl, ?_⟩
  have n0_ := Aside0.mk (Kd.R_below (by (with_reducible repeat (first | apply Kd.R_alloc | apply Kd.R_drewN | apply Kd.R_drew)); exact HO236.out) hb)
  have n1_ := Aside0.mk (Kd.R_below (by (with_reducible repeat (first | apply Kd.R_alloc | apply Kd.R_drewN | apply Kd.R_drew)); exact HO241.out) hb)
  have n2_ := Aside0.mk (Kd.R_elder' (by (with_reducible repeat (first | apply Kd.R_alloc | apply Kd.R_drewN | apply Kd.R_drew)); exact HO244.out) (Kd.R_base ho0) hb)
  have n3_ := Aside0.mk (Kd.R_lower (Kd.R_new' ho0 (Kd.R_lt (by (with_reducible repeat (first | apply Kd.R_alloc | apply Kd.R_drewN | apply Kd.R_drew)); exact HO244.out))) (below_size (by repeat (first | (with_reducible first | exact HB.out | apply below_alloc | apply pw_below_drewN | apply below_drew1 | refine below_set ?_ GE238.out) | exact HB.out))))
  have n4_ := Aside0.mk (blk_below (g := gb238) (o := .cells #[.slice Ao18 t234.length co18, .int .i64 t237] 26 (0, 0)) (by (with_reducible repeat (first | refine blk_drewN ?_ _ | refine blk_drew ?_ | refine blk_alloc ?_ _)); exact BK238.out) hb)
  have n5_ := Aside0.mk (below_step (by repeat (first | (with_reducible first | exact HB.out | apply below_alloc | apply pw_below_drewN | apply below_drew1 | refine below_set ?_ GE238.out) | exact HB.out)) hb)
  clear HO236
  clear HO241
  clear HO244
  clear BK238
  clear HB
  have HO236 := n0_
  have HO241 := n1_
  have HO244 := n2_
  have HO249 := n3_
  have BK238 := n4_
  have HB := n5_
  clear n0_ n1_ n2_ n3_ n4_ n5_
  (try clear hb)
  (try clear hb2)
  (try clear hk)
  (try clear hi)
  (try clear ho0)
  refine hK.out _ _ ⟨(blk_cell BK238.out 0).trans rfl, (blk_cell BK238.out 1).trans rfl⟩ (fun hHeld => ?_)
  clear hK K
  refine norm_ (a' := ?_) ?_ ?_
  rotate_left
  ·
   show Act.put _ (some 47) _ = _
   simp only [Act.put, List.setIfInBounds_toArray, List.set_cons_zero, List.set_cons_succ, i64_w, i32_w]
   rfl
  refine pure_ (i := 6) (N := some 41) (v := ?_) (a' := ?_) #[true, true, true, true, true, true, true, false, false, false, false, false, false] rfl rfl (any_of HT_.out (by kernel_rfl)) (fun _ _ _ h => h) (Or.inl ⟨by rfl, ?_⟩) ?_ ?_
  rotate_left
  ·
   intro w'
   go_simp
   with_reducible rfl
  rotate_left
  ·
   simp only [Act.put, List.setIfInBounds_toArray, List.set_cons_zero, List.set_cons_succ, i64_w, i32_w]
   rfl
  refine pure_ (i := 7) (N := some 48) (v := ?_) (a' := ?_) #[true, true, true, true, true, true, true, true, false, false, false, false, false] rfl rfl (any_of HT_.out (by kernel_rfl)) (fun _ _ _ h => h) (Or.inl ⟨by rfl, ?_⟩) ?_ ?_
  rotate_left
  ·
   intro w'
   go_simp
   with_reducible rfl
  rotate_left
  ·
   simp only [Act.put, List.setIfInBounds_toArray, List.set_cons_zero, List.set_cons_succ, i64_w, i32_w]
   rfl
  refine pure_ (i := 8) (N := some 49) (v := ?_) (a' := ?_) #[true, true, true, true, true, true, true, true, true, false, false, false, false] rfl rfl (any_of HT_.out (by kernel_rfl)) (fun _ _ _ h => h) (Or.inl ⟨by rfl, ?_⟩) ?_ ?_
  rotate_left
  ·
   intro w'
   go_simp
   with_reducible rfl
  rotate_left
  ·
   simp only [Act.put, List.setIfInBounds_toArray, List.set_cons_zero, List.set_cons_succ, i64_w, i32_w]
   rfl
  refine pure_ (i := 9) (N := some 50) (v := ?_) (a' := ?_) #[true, true, true, true, true, true, true, true, true, true, false, false, false] rfl rfl (any_of HT_.out (by kernel_rfl)) (fun _ _ _ h => h) (Or.inl ⟨by rfl, ?_⟩) ?_ ?_
  rotate_left
  ·
   intro w'
   go_simp
   with_reducible rfl
  rotate_left
  ·
   simp only [Act.put, List.setIfInBounds_toArray, List.set_cons_zero, List.set_cons_succ, i64_w, i32_w]
   rfl
  refine pure_ (i := 10) (N := some 16) (v := ?_) (a' := ?_) #[true, true, true, true, true, true, true, true, true, true, true, false, false] rfl rfl (any_of HT_.out (by kernel_rfl)) (fun _ _ _ h => h) (Or.inl ⟨by rfl, ?_⟩) ?_ ?_
  rotate_left
  ·
   intro w'
   go_simp
   with_reducible rfl
  rotate_left
  ·
   simp only [Act.put, List.setIfInBounds_toArray, List.set_cons_zero, List.set_cons_succ, i64_w, i32_w]
   rfl
  refine pure_ (i := 11) (N := some 17) (v := ?_) (a' := ?_) #[true, true, true, true, true, true, true, true, true, true, true, true, false] rfl rfl (any_of HT_.out (by kernel_rfl)) (fun _ _ _ h => h) (Or.inl ⟨by rfl, ?_⟩) ?_ ?_
  rotate_left
  ·
   intro w'
   go_simp
   with_reducible rfl
  rotate_left
  ·
   simp only [Act.put, List.setIfInBounds_toArray, List.set_cons_zero, List.set_cons_succ, i64_w, i32_w]
   rfl
  refine pure_ (i := 12) (N := some 18) (v := ?_) (a' := ?_) #[true, true, true, true, true, true, true, true, true, true, true, true, true] rfl rfl (any_of HT_.out (by kernel_rfl)) (fun _ _ _ h => h) (Or.inl ⟨by rfl, ?_⟩) ?_ ?_
  rotate_left
  ·
   intro w'
   go_simp
   with_reducible rfl
  rotate_left
  ·
   simp only [Act.put, List.setIfInBounds_toArray, List.set_cons_zero, List.set_cons_succ, i64_w, i32_w]
   rfl
  refine done_ (done_of HT_.out (by kernel_rfl)) ?_
  have hcz27_0 : w26.cell? ⟨gb238, 0, none⟩ = some (.slice Ao18 t234.length co18) := (blk_cell BK238.out 0).trans rfl
  have hcz27_1 : w26.cell? ⟨gb238, 1, none⟩ = some (.int .i64 t237) := (blk_cell BK238.out 1).trans rfl
  have hfz27_0 := blk_frozen BK238.out 0
  have hfz27_1 := blk_frozen BK238.out 1
  go_upto_region 9 with (first | ((with_reducible refine gate_callee (f := 17) rfl ?_); refine goesL_ (some 54) rfl rfl Try.func17 (by kernel_rfl) rfl #[.agg #[.slice Ao18 t234.length co18, .int .i64 t237], .slice Ao22 t239.length co22, .int .i64 1] rfl (by (try simp only [List.map_toArray, List.map_cons, List.map_nil]); first | done | rfl | (simp only [List.length_drop, List.length_take]; rfl)) ?_; (with_reducible refine (recovery_Storm.calls _ _ t234 t237 _ _ t239 1 t252 t255 t256 _ ?side1 ?side2 ?side3 ?side4 A13.out).mono ?_); (case side1 => repeat (first | exact (Kd.R_reads' HO236.out).2.2 | (with_reducible refine Kd.C_alloc ?_ _) | (with_reducible refine Kd.C_drewN ?_ _) | (with_reducible refine Kd.C_drew ?_))); (case side2 => exact (Kd.R_reads' HO236.out).2.1); (case side3 => repeat (first | exact (Kd.R_reads' HO241.out).2.2 | (with_reducible refine Kd.C_alloc ?_ _) | (with_reducible refine Kd.C_drewN ?_ _) | (with_reducible refine Kd.C_drew ?_))); (case side4 => exact (Kd.R_reads' HO241.out).2.1); rintro e w28 ⟨v253, rfl, ho0, hb⟩; refine ⟨_, rfl, ?_⟩; have n0_ := Aside0.mk (Kd.R_below (by (with_reducible repeat (first | apply Kd.R_alloc | apply Kd.R_drewN | apply Kd.R_drew)); exact HO236.out) hb); have n1_ := Aside0.mk (Kd.R_below (by (with_reducible repeat (first | apply Kd.R_alloc | apply Kd.R_drewN | apply Kd.R_drew)); exact HO241.out) hb); have n2_ := Aside0.mk (Kd.R_elder' (by (with_reducible repeat (first | apply Kd.R_alloc | apply Kd.R_drewN | apply Kd.R_drew)); exact HO244.out) (Kd.R_base ho0) hb); have n3_ := Aside0.mk (Kd.R_elder' (by (with_reducible repeat (first | apply Kd.R_alloc | apply Kd.R_drewN | apply Kd.R_drew)); exact HO249.out) (Kd.R_base ho0) hb); have n4_ := Aside0.mk (Kd.R_lower (Kd.R_new' (Kd.R_new' ho0 (Kd.R_lt (by (with_reducible repeat (first | apply Kd.R_alloc | apply Kd.R_drewN | apply Kd.R_drew)); exact HO244.out))) (Kd.R_lt (by (with_reducible repeat (first | apply Kd.R_alloc | apply Kd.R_drewN | apply Kd.R_drew)); exact HO249.out))) (below_size (by repeat (first | (with_reducible first | exact HB.out | apply below_alloc | apply pw_below_drewN | apply below_drew1 | refine below_set ?_ GE238.out) | exact HB.out)))); have n5_ := Aside0.mk (blk_below (g := gb238) (o := .cells #[.slice Ao18 t234.length co18, .int .i64 t237] 26 (0, 0)) (by (with_reducible repeat (first | refine blk_drewN ?_ _ | refine blk_drew ?_ | refine blk_alloc ?_ _)); exact BK238.out) hb); have n6_ := Aside0.mk (below_step (by repeat (first | (with_reducible first | exact HB.out | apply below_alloc | apply pw_below_drewN | apply below_drew1 | refine below_set ?_ GE238.out) | exact HB.out)) hb); clear HO236; clear HO241; clear HO244; clear HO249; clear BK238; clear HB; have HO236 := n0_; have HO241 := n1_; have HO244 := n2_; have HO249 := n3_; have HO254 := n4_; have BK238 := n5_; have HB := n6_; clear n0_ n1_ n2_ n3_ n4_ n5_ n6_; (try clear hb); (try clear hb2); (try clear hk); (try clear hi); (try clear ho0)))
  (try simp only [Act.put, List.setIfInBounds_toArray, List.set_cons_zero, List.set_cons_succ])
  go_cut [88] (fun v88 wc => ∃ (kq : Nat) (x88_13 : Bool), v88 = .bool x88_13 ∧ Aside0 (dialtonelaw34_RecoveryStorms.j0 kq a4 t242 t247 t250 x88_13 = some r) ∧ Aside0 (kq ≤ k) ∧ Aside0 (Kd.R k39 39 wc w.heap.size (fun k_ => some k_ ≠ (v248 : Value).ownBlock) v243 t242) ∧ Aside0 (Kd.R k39 39 wc w.heap.size (fun k_ => some k_ ≠ (v243 : Value).ownBlock) v248 t247) ∧ Aside0 (Kd.R k67 67 wc w.heap.size (fun _ => True) (.slice Ao18 t234.length co18) t234) ∧ Aside0 (wc.heap[gb238]? = some (.cells #[(.slice Ao18 t234.length co18), .int .i64 t237] 26 (0, 0))) ∧ Aside0 (Below w.heap.size w wc))
  case first =>
   have H := HC14.out
   clear HC14
   by_cases c29 : t245 = 0
   ·
    rw [if_pos c29] at H
    have c29b0 : (t245 == 0) = true := beq_iff_eq.mpr c29
    have c29b1 : (t245 != 0) = false := bne_eq_false_iff_eq.mpr c29
    clear c29
    (first | rw [c29b0] | (simp only [i64_w, i32_w]; rw [c29b0]) | skip)
    by_cases c30 : t251 = 0
    ·
     rw [if_pos c30] at H
     have c30b0 : (t251 == 0) = true := beq_iff_eq.mpr c30
     have c30b1 : (t251 != 0) = false := bne_eq_false_iff_eq.mpr c30
     clear c30
     by_cases c31 : t256 = 0
     ·
      rw [if_pos c31] at H
      have c31b0 : (t256 == 0) = true := beq_iff_eq.mpr c31
      have c31b1 : (t256 != 0) = false := bne_eq_false_iff_eq.mpr c31
      clear c31
      by_cases c32 : t255 < 0
      ·
       rw [if_pos c32] at H
       have c32b0 : decide (t255 < 0) = true := decide_eq_true c32
       clear c32
       replace H := Option.bind_eq_some_iff.mp H
       obtain ⟨t257, A330, H⟩ := H
       replace H : (if t257 = true then (if t250 < 0 then (dialtonelaw34_RecoveryStorms.j0 k a4 t242 t247 t250 ((t247.length : Int) != (t239.length : Int))) else (dialtonelaw34_RecoveryStorms.j0 k a4 t242 t247 t250 false)) else (dialtonelaw34_RecoveryStorms.j0 k a4 t242 t247 t250 true)) = some r := H
       have A33 := Aside0.mk A330
       clear A330
       by_cases c34 : t257 = true
       ·
        subst c34
        have H1 : (if t250 < 0 then (dialtonelaw34_RecoveryStorms.j0 k a4 t242 t247 t250 ((t247.length : Int) != (t239.length : Int))) else (dialtonelaw34_RecoveryStorms.j0 k a4 t242 t247 t250 false)) = some r := by rw [if_pos rfl] at H; exact H
        clear H
        have H := H1
        clear H1
        by_cases c35 : t250 < 0
        ·
         rw [if_pos c35] at H
         have c35b0 : decide (t250 < 0) = true := decide_eq_true c35
         clear c35
         have H' := Aside0.mk H
         clear H
         obtain ⟨Ao36, co36, eo36⟩ := Kd.R_slice HO254.out
         subst eo36
         obtain ⟨Ao37, co37, eo37⟩ := Kd.R_slice HO244.out
         subst eo37
         go_wp2_with (first | (go_at_call 19; (with_reducible refine (dialtoneref34_Same.calls k _ _ t252 _ _ t242 true _ ?side1 ?side2 ?side3 ?side4 A33.out).mono ?_); (case side1 => repeat (first | exact (Kd.R_reads' HO254.out).2.2 | (with_reducible refine Kd.C_alloc ?_ _) | (with_reducible refine Kd.C_drewN ?_ _) | (with_reducible refine Kd.C_drew ?_))); (case side2 => exact (Kd.R_reads' HO254.out).2.1); (case side3 => repeat (first | exact (Kd.R_reads' HO244.out).2.2 | (with_reducible refine Kd.C_alloc ?_ _) | (with_reducible refine Kd.C_drewN ?_ _) | (with_reducible refine Kd.C_drew ?_))); (case side4 => exact (Kd.R_reads' HO244.out).2.1); rintro e w' ⟨rfl, ⟨nd, rfl⟩⟩; obtain ⟨Ao38, co38, eo38⟩ := Kd.R_slice HO249.out; subst eo38))
         go_meet
         case rel => exact ⟨_, (((t247.length : Int) != (t239.length : Int))), (by first | rfl | (simp; done) | (simp [*]; done)), H', ⟨by first | omega | exact Nat.le_refl _⟩, ⟨by (with_reducible repeat (first | apply Kd.R_alloc | apply Kd.R_drewN | apply Kd.R_drew)); exact Kd.R_mono HO244.out (fun _ hk => hk.1.2)⟩, ⟨by (with_reducible repeat (first | apply Kd.R_alloc | apply Kd.R_drewN | apply Kd.R_drew)); exact Kd.R_mono HO249.out (fun _ hk => hk.1.2)⟩, ⟨by (with_reducible repeat (first | apply Kd.R_alloc | apply Kd.R_drewN | apply Kd.R_drew)); exact HO236.out⟩, ⟨by (with_reducible repeat (first | refine blk_drewN ?_ _ | refine blk_drew ?_ | refine blk_alloc ?_ _)); exact BK238.out⟩, ⟨by repeat (first | (with_reducible first | exact HB.out | apply below_alloc | apply pw_below_drewN | apply below_drew1 | refine below_set ?_ GE238.out) | exact HB.out)⟩⟩
        ·
         rw [if_neg c35] at H
         have c35b0 : decide (t250 < 0) = false := decide_eq_false c35
         clear c35
         have H' := Aside0.mk H
         clear H
         obtain ⟨Ao39, co39, eo39⟩ := Kd.R_slice HO254.out
         subst eo39
         obtain ⟨Ao40, co40, eo40⟩ := Kd.R_slice HO244.out
         subst eo40
         go_wp2_with (first | (go_at_call 19; (with_reducible refine (dialtoneref34_Same.calls k _ _ t252 _ _ t242 true _ ?side1 ?side2 ?side3 ?side4 A33.out).mono ?_); (case side1 => repeat (first | exact (Kd.R_reads' HO254.out).2.2 | (with_reducible refine Kd.C_alloc ?_ _) | (with_reducible refine Kd.C_drewN ?_ _) | (with_reducible refine Kd.C_drew ?_))); (case side2 => exact (Kd.R_reads' HO254.out).2.1); (case side3 => repeat (first | exact (Kd.R_reads' HO244.out).2.2 | (with_reducible refine Kd.C_alloc ?_ _) | (with_reducible refine Kd.C_drewN ?_ _) | (with_reducible refine Kd.C_drew ?_))); (case side4 => exact (Kd.R_reads' HO244.out).2.1); rintro e w' ⟨rfl, ⟨nd, rfl⟩⟩))
         go_meet
         case rel => exact ⟨_, (false), (by first | rfl | (simp; done) | (simp [*]; done)), H', ⟨by first | omega | exact Nat.le_refl _⟩, ⟨by (with_reducible repeat (first | apply Kd.R_alloc | apply Kd.R_drewN | apply Kd.R_drew)); exact Kd.R_mono HO244.out (fun _ hk => hk.1.2)⟩, ⟨by (with_reducible repeat (first | apply Kd.R_alloc | apply Kd.R_drewN | apply Kd.R_drew)); exact Kd.R_mono HO249.out (fun _ hk => hk.1.2)⟩, ⟨by (with_reducible repeat (first | apply Kd.R_alloc | apply Kd.R_drewN | apply Kd.R_drew)); exact HO236.out⟩, ⟨by (with_reducible repeat (first | refine blk_drewN ?_ _ | refine blk_drew ?_ | refine blk_alloc ?_ _)); exact BK238.out⟩, ⟨by repeat (first | (with_reducible first | exact HB.out | apply below_alloc | apply pw_below_drewN | apply below_drew1 | refine below_set ?_ GE238.out) | exact HB.out)⟩⟩
       ·
        replace c34 := Bool.eq_false_iff.mpr c34
        subst c34
        have H1 : (dialtonelaw34_RecoveryStorms.j0 k a4 t242 t247 t250 true) = some r := by rw [if_neg (show ¬ (false = true) by decide)] at H; exact H
        clear H
        have H := H1
        clear H1
        have H' := Aside0.mk H
        clear H
        obtain ⟨Ao41, co41, eo41⟩ := Kd.R_slice HO254.out
        subst eo41
        obtain ⟨Ao42, co42, eo42⟩ := Kd.R_slice HO244.out
        subst eo42
        go_wp2_with (first | (go_at_call 19; (with_reducible refine (dialtoneref34_Same.calls k _ _ t252 _ _ t242 false _ ?side1 ?side2 ?side3 ?side4 A33.out).mono ?_); (case side1 => repeat (first | exact (Kd.R_reads' HO254.out).2.2 | (with_reducible refine Kd.C_alloc ?_ _) | (with_reducible refine Kd.C_drewN ?_ _) | (with_reducible refine Kd.C_drew ?_))); (case side2 => exact (Kd.R_reads' HO254.out).2.1); (case side3 => repeat (first | exact (Kd.R_reads' HO244.out).2.2 | (with_reducible refine Kd.C_alloc ?_ _) | (with_reducible refine Kd.C_drewN ?_ _) | (with_reducible refine Kd.C_drew ?_))); (case side4 => exact (Kd.R_reads' HO244.out).2.1); rintro e w' ⟨rfl, ⟨nd, rfl⟩⟩))
        go_meet
        case rel => exact ⟨_, (true), (by first | rfl | (simp; done) | (simp [*]; done)), H', ⟨by first | omega | exact Nat.le_refl _⟩, ⟨by (with_reducible repeat (first | apply Kd.R_alloc | apply Kd.R_drewN | apply Kd.R_drew)); exact Kd.R_mono HO244.out (fun _ hk => hk.1.2)⟩, ⟨by (with_reducible repeat (first | apply Kd.R_alloc | apply Kd.R_drewN | apply Kd.R_drew)); exact Kd.R_mono HO249.out (fun _ hk => hk.1.2)⟩, ⟨by (with_reducible repeat (first | apply Kd.R_alloc | apply Kd.R_drewN | apply Kd.R_drew)); exact HO236.out⟩, ⟨by (with_reducible repeat (first | refine blk_drewN ?_ _ | refine blk_drew ?_ | refine blk_alloc ?_ _)); exact BK238.out⟩, ⟨by repeat (first | (with_reducible first | exact HB.out | apply below_alloc | apply pw_below_drewN | apply below_drew1 | refine below_set ?_ GE238.out) | exact HB.out)⟩⟩
      ·
       rw [if_neg c32] at H
       have c32b0 : decide (t255 < 0) = false := decide_eq_false c32
       clear c32
       by_cases c43 : t250 < 0
       ·
        rw [if_pos c43] at H
        have c43b0 : decide (t250 < 0) = true := decide_eq_true c43
        clear c43
        have H' := Aside0.mk H
        clear H
        obtain ⟨Ao44, co44, eo44⟩ := Kd.R_slice HO249.out
        subst eo44
        go_wp2
        go_meet
        case rel => exact ⟨_, (((t247.length : Int) != (t239.length : Int))), (by first | rfl | (simp; done) | (simp [*]; done)), H', ⟨by first | omega | exact Nat.le_refl _⟩, ⟨by (with_reducible repeat (first | apply Kd.R_alloc | apply Kd.R_drewN | apply Kd.R_drew)); exact Kd.R_mono HO244.out (fun _ hk => hk.1.2)⟩, ⟨by (with_reducible repeat (first | apply Kd.R_alloc | apply Kd.R_drewN | apply Kd.R_drew)); exact Kd.R_mono HO249.out (fun _ hk => hk.1.2)⟩, ⟨by (with_reducible repeat (first | apply Kd.R_alloc | apply Kd.R_drewN | apply Kd.R_drew)); exact HO236.out⟩, ⟨by (with_reducible repeat (first | refine blk_drewN ?_ _ | refine blk_drew ?_ | refine blk_alloc ?_ _)); exact BK238.out⟩, ⟨by repeat (first | (with_reducible first | exact HB.out | apply below_alloc | apply pw_below_drewN | apply below_drew1 | refine below_set ?_ GE238.out) | exact HB.out)⟩⟩
       ·
        rw [if_neg c43] at H
        have c43b0 : decide (t250 < 0) = false := decide_eq_false c43
        clear c43
        have H' := Aside0.mk H
        clear H
        go_wp2
        go_meet
        case rel => exact ⟨_, (false), (by first | rfl | (simp; done) | (simp [*]; done)), H', ⟨by first | omega | exact Nat.le_refl _⟩, ⟨by (with_reducible repeat (first | apply Kd.R_alloc | apply Kd.R_drewN | apply Kd.R_drew)); exact Kd.R_mono HO244.out (fun _ hk => hk.1.2)⟩, ⟨by (with_reducible repeat (first | apply Kd.R_alloc | apply Kd.R_drewN | apply Kd.R_drew)); exact Kd.R_mono HO249.out (fun _ hk => hk.1.2)⟩, ⟨by (with_reducible repeat (first | apply Kd.R_alloc | apply Kd.R_drewN | apply Kd.R_drew)); exact HO236.out⟩, ⟨by (with_reducible repeat (first | refine blk_drewN ?_ _ | refine blk_drew ?_ | refine blk_alloc ?_ _)); exact BK238.out⟩, ⟨by repeat (first | (with_reducible first | exact HB.out | apply below_alloc | apply pw_below_drewN | apply below_drew1 | refine below_set ?_ GE238.out) | exact HB.out)⟩⟩
     ·
      rw [if_neg c31] at H
      have c31b0 : (t256 == 0) = false := beq_eq_false_iff_ne.mpr c31
      have c31b1 : (t256 != 0) = true := bne_iff_ne.mpr c31
      have H' := Aside0.mk H
      clear H
      go_wp2
      go_meet
      case rel => exact ⟨_, (true), (by first | rfl | (simp; done) | (simp [*]; done)), H', ⟨by first | omega | exact Nat.le_refl _⟩, ⟨by (with_reducible repeat (first | apply Kd.R_alloc | apply Kd.R_drewN | apply Kd.R_drew)); exact Kd.R_mono HO244.out (fun _ hk => hk.1.2)⟩, ⟨by (with_reducible repeat (first | apply Kd.R_alloc | apply Kd.R_drewN | apply Kd.R_drew)); exact Kd.R_mono HO249.out (fun _ hk => hk.1.2)⟩, ⟨by (with_reducible repeat (first | apply Kd.R_alloc | apply Kd.R_drewN | apply Kd.R_drew)); exact HO236.out⟩, ⟨by (with_reducible repeat (first | refine blk_drewN ?_ _ | refine blk_drew ?_ | refine blk_alloc ?_ _)); exact BK238.out⟩, ⟨by repeat (first | (with_reducible first | exact HB.out | apply below_alloc | apply pw_below_drewN | apply below_drew1 | refine below_set ?_ GE238.out) | exact HB.out)⟩⟩
    ·
     rw [if_neg c30] at H
     have c30b0 : (t251 == 0) = false := beq_eq_false_iff_ne.mpr c30
     have c30b1 : (t251 != 0) = true := bne_iff_ne.mpr c30
     have H' := Aside0.mk H
     clear H
     go_wp2
     go_meet
     case rel => exact ⟨_, (true), (by first | rfl | (simp; done) | (simp [*]; done)), H', ⟨by first | omega | exact Nat.le_refl _⟩, ⟨by (with_reducible repeat (first | apply Kd.R_alloc | apply Kd.R_drewN | apply Kd.R_drew)); exact Kd.R_mono HO244.out (fun _ hk => hk.1.2)⟩, ⟨by (with_reducible repeat (first | apply Kd.R_alloc | apply Kd.R_drewN | apply Kd.R_drew)); exact Kd.R_mono HO249.out (fun _ hk => hk.1.2)⟩, ⟨by (with_reducible repeat (first | apply Kd.R_alloc | apply Kd.R_drewN | apply Kd.R_drew)); exact HO236.out⟩, ⟨by (with_reducible repeat (first | refine blk_drewN ?_ _ | refine blk_drew ?_ | refine blk_alloc ?_ _)); exact BK238.out⟩, ⟨by repeat (first | (with_reducible first | exact HB.out | apply below_alloc | apply pw_below_drewN | apply below_drew1 | refine below_set ?_ GE238.out) | exact HB.out)⟩⟩
   ·
    rw [if_neg c29] at H
    have c29b0 : (t245 == 0) = false := beq_eq_false_iff_ne.mpr c29
    have c29b1 : (t245 != 0) = true := bne_iff_ne.mpr c29
    (first | rw [c29b0] | (simp only [i64_w, i32_w]; rw [c29b0]) | skip)
    have H' := Aside0.mk H
    clear H
    go_wp2
    go_meet
    case rel => exact ⟨_, (true), (by first | rfl | (simp; done) | (simp [*]; done)), H', ⟨by first | omega | exact Nat.le_refl _⟩, ⟨by (with_reducible repeat (first | apply Kd.R_alloc | apply Kd.R_drewN | apply Kd.R_drew)); exact Kd.R_mono HO244.out (fun _ hk => hk.1.2)⟩, ⟨by (with_reducible repeat (first | apply Kd.R_alloc | apply Kd.R_drewN | apply Kd.R_drew)); exact Kd.R_mono HO249.out (fun _ hk => hk.1.2)⟩, ⟨by (with_reducible repeat (first | apply Kd.R_alloc | apply Kd.R_drewN | apply Kd.R_drew)); exact HO236.out⟩, ⟨by (with_reducible repeat (first | refine blk_drewN ?_ _ | refine blk_drew ?_ | refine blk_alloc ?_ _)); exact BK238.out⟩, ⟨by repeat (first | (with_reducible first | exact HB.out | apply below_alloc | apply pw_below_drewN | apply below_drew1 | refine below_set ?_ GE238.out) | exact HB.out)⟩⟩
  case rest =>
   clear HC14
   try clear c1
   try clear c2
   try clear p2
   try clear c3
   try clear c4
   try clear p6
   try clear c7
   try clear c13
   try clear c14
   try clear c15
   try clear c16
   try clear c17
   try clear c18
   try clear c29
   try clear c29b0
   try clear c29b1
   try clear c30
   try clear c30b0
   try clear c30b1
   try clear c31
   try clear c31b0
   try clear c31b1
   try clear c32
   try clear c32b0
   try clear c34
   try clear c35
   try clear c35b0
   try clear c43
   try clear c43b0
   try clear hcz19_0
   try clear hcz19_1
   try clear hcz21_0
   try clear hcz21_1
   try clear hcz27_0
   try clear hcz27_1
   try clear hfz19_0
   try clear hfz19_1
   try clear hfz21_0
   try clear hfz21_1
   try clear hfz27_0
   try clear hfz27_1
   obtain ⟨kq, x88_13, rfl, HA, HJ13, HO_14, HO_16, HO_239000, BK238, HB⟩ := hcut
   cases kq with
   | zero => exact absurd HA.out (by simp [dialtonelaw34_RecoveryStorms.j0])
   | succ kj13 =>
    have H := HA.out
    clear HA
    simp only [dialtonelaw34_RecoveryStorms.j0] at H
    by_cases c45 : x88_13 = true
    ·
     subst c45
     have H1 : (none) = some r := by rw [if_pos rfl] at H; exact H
     clear H
     have H := H1
     clear H1
     exact absurd H (by simp)
    ·
     replace c45 := Bool.eq_false_iff.mpr c45
     subst c45
     have H1 : ((dialtonelaw34_pick.f a4 80).bind fun t258 => (dialtonelaw34_RecoveryStorms.l0 kj13 t242 t247 t250 t258 0 0 0)) = some r := by rw [if_neg (show ¬ (false = true) by decide)] at H; exact H
     clear H
     have H := H1
     clear H1
     replace H := Option.bind_eq_some_iff.mp H
     obtain ⟨t258, A460, H⟩ := H
     replace H : (dialtonelaw34_RecoveryStorms.l0 kj13 t242 t247 t250 t258 0 0 0) = some r := H
     have A46 := Aside0.mk A460
     clear A460
     have H' := Aside0.mk H
     clear H
     go_wp2_with (first | ((with_reducible refine gate_callee (f := 18) rfl ?_); refine goesL_ (some 90) rfl rfl Try.func18 (by kernel_rfl) rfl #[.int .i64 a4, .int .i64 80] rfl (by (try simp only [List.map_toArray, List.map_cons, List.map_nil]); first | done | rfl | (simp only [List.length_drop, List.length_take]; rfl)) ?_; (with_reducible refine (dialtonelaw34_pick.calls a4 80 t258 _ A46.out).mono ?_); rintro e w47 ⟨rfl, hb⟩; refine ⟨_, rfl, ?_⟩; have n0_ := Aside0.mk (Kd.R_below (by (with_reducible repeat (first | apply Kd.R_alloc | apply Kd.R_drewN | apply Kd.R_drew)); exact HO_14.out) hb); have n1_ := Aside0.mk (Kd.R_below (by (with_reducible repeat (first | apply Kd.R_alloc | apply Kd.R_drewN | apply Kd.R_drew)); exact HO_16.out) hb); have n2_ := Aside0.mk (Kd.R_below (by (with_reducible repeat (first | apply Kd.R_alloc | apply Kd.R_drewN | apply Kd.R_drew)); exact HO_239000.out) hb); have n3_ := Aside0.mk (blk_below (g := gb238) (o := .cells #[.slice Ao18 t234.length co18, .int .i64 t237] 26 (0, 0)) (by (with_reducible repeat (first | refine blk_drewN ?_ _ | refine blk_drew ?_ | refine blk_alloc ?_ _)); exact BK238.out) hb); have n4_ := Aside0.mk (below_step (by repeat (first | (with_reducible first | exact HB.out | apply below_alloc | apply pw_below_drewN | apply below_drew1 | refine below_set ?_ GE238.out) | exact HB.out)) hb); clear HO_14; clear HO_16; clear HO_239000; clear BK238; clear HB; have HO_14 := n0_; have HO_16 := n1_; have HO_239000 := n2_; have BK238 := n3_; have HB := n4_; clear n0_ n1_ n2_ n3_ n4_; (try clear hb); (try clear hb2); (try clear hk); (try clear hi)))
     go_loopg [23, 25] kj13 (fun kq v23 v25 w' => ∃ (x23_2 : Int) (x25_2 : Int), v23 = .int .i64 x23_2 ∧ v25 = .int .i64 x25_2 ∧ Aside0 (dialtonelaw34_RecoveryStorms.l0 kq t242 t247 t250 t258 x23_2 0 x25_2 = some r) ∧ Aside0 (kq ≤ kj13) ∧ Aside0 (Kd.R k39 39 w' w.heap.size (fun k_ => some k_ ≠ (v248 : Value).ownBlock) v243 t242) ∧ Aside0 (Kd.R k39 39 w' w.heap.size (fun k_ => some k_ ≠ (v243 : Value).ownBlock) v248 t247) ∧ Aside0 (Kd.R k67 67 w' w.heap.size (fun _ => True) (.slice Ao18 t234.length co18) t234) ∧ Aside0 (w'.heap[gb238]? = some (.cells #[(.slice Ao18 t234.length co18), .int .i64 t237] 26 (0, 0))) ∧ Aside0 (Below w.heap.size w w'))
     case atStart => exact ⟨(0), (0), (by first | rfl | (simp; done) | (simp [*]; done)), (by first | rfl | (simp; done) | (simp [*]; done)), H', ⟨Nat.le_refl _⟩, ⟨by (with_reducible repeat (first | apply Kd.R_alloc | apply Kd.R_drewN | apply Kd.R_drew)); exact HO_14.out⟩, ⟨by (with_reducible repeat (first | apply Kd.R_alloc | apply Kd.R_drewN | apply Kd.R_drew)); exact HO_16.out⟩, ⟨by (with_reducible repeat (first | apply Kd.R_alloc | apply Kd.R_drewN | apply Kd.R_drew)); exact HO_239000.out⟩, ⟨by (with_reducible repeat (first | refine blk_drewN ?_ _ | refine blk_drew ?_ | refine blk_alloc ?_ _)); exact BK238.out⟩, ⟨by repeat (first | (with_reducible first | exact HB.out | apply below_alloc | apply pw_below_drewN | apply below_drew1 | refine below_set ?_ GE238.out) | exact HB.out)⟩⟩
     case round =>
      clear H'
      try clear c1
      try clear c2
      try clear p2
      try clear c3
      try clear c4
      try clear p6
      try clear c7
      try clear c13
      try clear c14
      try clear c15
      try clear c16
      try clear c17
      try clear c18
      try clear c29
      try clear c29b0
      try clear c29b1
      try clear c30
      try clear c30b0
      try clear c30b1
      try clear c31
      try clear c31b0
      try clear c31b1
      try clear c32
      try clear c32b0
      try clear c34
      try clear c35
      try clear c35b0
      try clear c43
      try clear c43b0
      try clear c45
      try clear hcz19_0
      try clear hcz19_1
      try clear hcz21_0
      try clear hcz21_1
      try clear hcz27_0
      try clear hcz27_1
      try clear hfz19_0
      try clear hfz19_1
      try clear hfz21_0
      try clear hfz21_1
      try clear hfz27_0
      try clear hfz27_1
      try clear p2
      try clear p6
      obtain ⟨x23_2, x25_2, rfl, rfl, HA, HK2, HO_14, HO_16, HO_239000, BK238, HB⟩ := hrel
      cases gk with
      | zero => exact absurd HA.out (by simp [dialtonelaw34_RecoveryStorms.l0])
      | succ k2 =>
       have H := HA.out
       clear HA
       simp only [dialtonelaw34_RecoveryStorms.l0] at H
       by_cases c48 : x25_2 < (t247.length : Int)
       ·
        rw [if_pos c48] at H
        have c48b0 : decide (x25_2 < (t247.length : Int)) = true := decide_eq_true c48
        clear c48
        by_cases c49 : 0 ≤ x25_2
        ·
         rw [if_pos c49] at H
         have c49b0 : decide (0 ≤ x25_2) = true := decide_eq_true c49
         clear c49
         have HC50 := Aside0.mk H
         clear H
         obtain ⟨Ao51, co51, eo51⟩ := Kd.R_slice HO_16.out
         subst eo51
         have p259 : 0 ≤ (x25_2 : Int) := of_decide_eq_true (by first | (with_reducible assumption) | assumption)
         have q259 : x25_2 < (t247.length : Int) := of_decide_eq_true (by first | (with_reducible assumption) | assumption)
         obtain ⟨ad259, e259, hx259_0, hx259_1, hx259_2⟩ := at_T39 (Kd.R_reads' HO_16.out).2.2 x25_2 p259 q259
         cases e259
         replace p259 := eq_true p259
         replace q259 := eq_true q259
         go_upto_if 103 with (fail)
         go_cut [23] (fun v23 wc => ∃ (kq : Nat) (x23_49 : Int), v23 = .int .i64 x23_49 ∧ Aside0 (dialtonelaw34_RecoveryStorms.j2 kq t242 t247 t250 t258 x23_49 0 x25_2 = some r) ∧ Aside0 (kq ≤ k2) ∧ Aside0 (Kd.R k39 39 wc w.heap.size (fun k_ => some k_ ≠ ((.slice (some ad259) t247.length co51) : Value).ownBlock) v243 t242) ∧ Aside0 (Kd.R k39 39 wc w.heap.size (fun k_ => some k_ ≠ (v243 : Value).ownBlock) (.slice (some ad259) t247.length co51) t247) ∧ Aside0 (Kd.R k67 67 wc w.heap.size (fun _ => True) (.slice Ao18 t234.length co18) t234) ∧ Aside0 (wc.heap[gb238]? = some (.cells #[(.slice Ao18 t234.length co18), .int .i64 t237] 26 (0, 0))) ∧ Aside0 (Below w.heap.size w wc))
         case first =>
          have H := HC50.out
          clear HC50
          by_cases c52 : ((rd_T39 t247 x25_2).f2) ≤ t258
          ·
           rw [if_pos c52] at H
           have c52b0 : decide (((rd_T39 t247 x25_2).f2) ≤ t258) = true := decide_eq_true c52
           clear c52
           (first | rw [c52b0] | (simp only [i64_w, i32_w]; rw [c52b0]) | skip)
           have H' := Aside0.mk H
           clear H
           go_wp2
           go_meet
           case rel => exact ⟨_, (wrap64 (x23_2 + 1)), (by first | rfl | (simp; done) | (simp [*]; done)), H', ⟨by have := HJ13.out; have := HK2.out; first | omega | exact Nat.le_refl _⟩, ⟨by (with_reducible repeat (first | apply Kd.R_alloc | apply Kd.R_drewN | apply Kd.R_drew)); exact HO_14.out⟩, ⟨by (with_reducible repeat (first | apply Kd.R_alloc | apply Kd.R_drewN | apply Kd.R_drew)); exact HO_16.out⟩, ⟨by (with_reducible repeat (first | apply Kd.R_alloc | apply Kd.R_drewN | apply Kd.R_drew)); exact HO_239000.out⟩, ⟨by (with_reducible repeat (first | refine blk_drewN ?_ _ | refine blk_drew ?_ | refine blk_alloc ?_ _)); exact BK238.out⟩, ⟨by repeat (first | (with_reducible first | exact HB.out | apply below_alloc | apply pw_below_drewN | apply below_drew1 | refine below_set ?_ GE238.out) | exact HB.out)⟩⟩
          ·
           rw [if_neg c52] at H
           have c52b0 : decide (((rd_T39 t247 x25_2).f2) ≤ t258) = false := decide_eq_false c52
           clear c52
           (first | rw [c52b0] | (simp only [i64_w, i32_w]; rw [c52b0]) | skip)
           have H' := Aside0.mk H
           clear H
           go_wp2
           go_meet
           case rel => exact ⟨_, (x23_2), (by first | rfl | (simp; done) | (simp [*]; done)), H', ⟨by have := HJ13.out; have := HK2.out; first | omega | exact Nat.le_refl _⟩, ⟨by (with_reducible repeat (first | apply Kd.R_alloc | apply Kd.R_drewN | apply Kd.R_drew)); exact HO_14.out⟩, ⟨by (with_reducible repeat (first | apply Kd.R_alloc | apply Kd.R_drewN | apply Kd.R_drew)); exact HO_16.out⟩, ⟨by (with_reducible repeat (first | apply Kd.R_alloc | apply Kd.R_drewN | apply Kd.R_drew)); exact HO_239000.out⟩, ⟨by (with_reducible repeat (first | refine blk_drewN ?_ _ | refine blk_drew ?_ | refine blk_alloc ?_ _)); exact BK238.out⟩, ⟨by repeat (first | (with_reducible first | exact HB.out | apply below_alloc | apply pw_below_drewN | apply below_drew1 | refine below_set ?_ GE238.out) | exact HB.out)⟩⟩
         case rest =>
          clear HC50
          try clear c1
          try clear c2
          try clear p2
          try clear q2
          try clear hx2
          try clear c3
          try clear c4
          try clear c5
          try clear p6
          try clear c7
          try clear c13
          try clear c14
          try clear c15
          try clear c16
          try clear c17
          try clear c18
          try clear p25
          try clear q25
          try clear hx25
          try clear c29
          try clear c29b0
          try clear c29b1
          try clear c30
          try clear c30b0
          try clear c30b1
          try clear c31
          try clear c31b0
          try clear c31b1
          try clear c32
          try clear c32b0
          try clear c34
          try clear c35
          try clear c35b0
          try clear c43
          try clear c43b0
          try clear c45
          try clear c48
          try clear c48b0
          try clear c49
          try clear c49b0
          try clear c52
          try clear c52b0
          try clear hcz19_0
          try clear hcz19_1
          try clear hcz21_0
          try clear hcz21_1
          try clear hcz27_0
          try clear hcz27_1
          try clear hfz19_0
          try clear hfz19_1
          try clear hfz21_0
          try clear hfz21_1
          try clear hfz27_0
          try clear hfz27_1
          try clear hx259_0
          try clear hx259_1
          try clear hx259_2
          try clear p2
          try clear p259
          try clear p6
          try clear q259
          obtain ⟨kq, x23_49, rfl, HA, HJ49, HO_14, HO_16, HO_239000, BK238, HB⟩ := hcut
          cases kq with
          | zero => exact absurd HA.out (by simp [dialtonelaw34_RecoveryStorms.j2])
          | succ kj49 =>
           have H := HA.out
           clear HA
           simp only [dialtonelaw34_RecoveryStorms.j2] at H
           have HC53 := Aside0.mk H
           clear H
           go_upto_region 19 with (fail)
           go_cut [129] (fun v129 wc => ∃ (kq : Nat) (x129_52 : Bool), v129 = .bool x129_52 ∧ Aside0 (dialtonelaw34_RecoveryStorms.j3 kq t242 t247 t250 t258 x23_49 0 x25_2 x129_52 = some r) ∧ Aside0 (kq ≤ kj49) ∧ Aside0 (Kd.R k39 39 wc w.heap.size (fun k_ => some k_ ≠ ((.slice (some ad259) t247.length co51) : Value).ownBlock) v243 t242) ∧ Aside0 (Kd.R k39 39 wc w.heap.size (fun k_ => some k_ ≠ (v243 : Value).ownBlock) (.slice (some ad259) t247.length co51) t247) ∧ Aside0 (Kd.R k67 67 wc w.heap.size (fun _ => True) (.slice Ao18 t234.length co18) t234) ∧ Aside0 (wc.heap[gb238]? = some (.cells #[(.slice Ao18 t234.length co18), .int .i64 t237] 26 (0, 0))) ∧ Aside0 (Below w.heap.size w wc))
           case first =>
            have H := HC53.out
            clear HC53
            by_cases c54 : 0 ≤ x25_2
            ·
             rw [if_pos c54] at H
             have c54b0 : decide (0 ≤ x25_2) = true := decide_eq_true c54
             clear c54
             (first | rw [c54b0] | (simp only [i64_w, i32_w]; rw [c54b0]) | skip)
             by_cases c55 : x25_2 < (t247.length : Int)
             ·
              rw [if_pos c55] at H
              have c55b0 : decide (x25_2 < (t247.length : Int)) = true := decide_eq_true c55
              clear c55
              by_cases c56 : ((rd_T39 t247 x25_2).f2) < ((rd_T39 t247 x25_2).f1)
              ·
               rw [if_pos c56] at H
               have c56b0 : decide (((rd_T39 t247 x25_2).f2) < ((rd_T39 t247 x25_2).f1)) = true := decide_eq_true c56
               clear c56
               have H' := Aside0.mk H
               clear H
               try go_wp2
               have n0_ := Aside0.mk (Kd.R_drew HO_14.out)
               have n1_ := Aside0.mk (Kd.R_drew HO_16.out)
               have n2_ := Aside0.mk (Kd.R_drew HO_239000.out)
               have n3_ := Aside0.mk (blk_drew BK238.out)
               have n4_ := Aside0.mk (below_drew1 HB.out)
               clear HO_14
               clear HO_16
               clear HO_239000
               clear BK238
               clear HB
               have HO_14 := n0_
               have HO_16 := n1_
               have HO_239000 := n2_
               have BK238 := n3_
               have HB := n4_
               clear n0_ n1_ n2_ n3_ n4_
               have p260 : 0 ≤ (x25_2 : Int) := of_decide_eq_true (by first | (with_reducible assumption) | assumption)
               have q260 : x25_2 < (t247.length : Int) := of_decide_eq_true (by first | (with_reducible assumption) | assumption)
               obtain ⟨ad260, e260, hx260_0, hx260_1, hx260_2⟩ := at_T39 (Kd.R_reads' HO_16.out).2.2 x25_2 p260 q260
               obtain rfl : ad259 = ad260 := (by injection e260)
               replace p260 := eq_true p260
               replace q260 := eq_true q260
               have p261 : 0 ≤ (x25_2 : Int) := of_decide_eq_true (by first | (with_reducible assumption) | assumption)
               have q261 : x25_2 < (t247.length : Int) := of_decide_eq_true (by first | (with_reducible assumption) | assumption)
               obtain ⟨ad261, e261, hx261_0, hx261_1, hx261_2⟩ := at_T39 (Kd.R_reads' HO_16.out).2.2 x25_2 p261 q261
               obtain rfl : ad259 = ad261 := (by injection e261)
               replace p261 := eq_true p261
               replace q261 := eq_true q261
               refine start_ (n := 24) (S := fun w' => w'.cell? (ad259.add ((x25_2).toNat * 3)) = some (.int .i64 ((rd_T39 t247 x25_2).f0)) ∧ w'.cell? ⟨(ad259.add ((x25_2).toNat * 3)).block, (ad259.add ((x25_2).toNat * 3)).off + 1, none⟩ = some (.int .i64 ((rd_T39 t247 x25_2).f1)) ∧ w'.cell? ⟨(ad259.add ((x25_2).toNat * 3)).block, (ad259.add ((x25_2).toNat * 3)).off + 2, none⟩ = some (.int .i64 ((rd_T39 t247 x25_2).f2)) ∧ w'.cell? (ad259.add ((x25_2).toNat * 3)) = some (.int .i64 ((rd_T39 t247 x25_2).f0)) ∧ w'.cell? ⟨(ad259.add ((x25_2).toNat * 3)).block, (ad259.add ((x25_2).toNat * 3)).off + 1, none⟩ = some (.int .i64 ((rd_T39 t247 x25_2).f1)) ∧ w'.cell? ⟨(ad259.add ((x25_2).toNat * 3)).block, (ad259.add ((x25_2).toNat * 3)).off + 2, none⟩ = some (.int .i64 ((rd_T39 t247 x25_2).f2))) (ds := []) #[false, false, false, false, false, false, false, false, false, false, false, false, false, false, false, false, false, false, false, false, false, false, false, false] (by kernel_rfl) rfl rfl ⟨hx260_0, hx260_1, hx260_2, hx261_0, hx261_1, hx261_2⟩ (fun hHeld => ?_); refine with_tabW dialtonelaw34_RecoveryStorms.tab19 dialtonelaw34_RecoveryStorms.bits19 (fun HT_ HW_ => ?_)
               generalize wc.drew = w57 at HO_14 HO_16 HO_239000 BK238 HB hx260_0 hx260_1 hx260_2 hx261_0 hx261_1 hx261_2 hHeld ⊢
               refine pure_ (i := 0) (N := some 106) (v := ?_) (a' := ?_) #[true, false, false, false, false, false, false, false, false, false, false, false, false, false, false, false, false, false, false, false, false, false, false, false] rfl rfl (any_of HT_.out (by kernel_rfl)) (fun _ _ _ h => h) (Or.inl ⟨by rfl, ?_⟩) ?_ ?_
               rotate_left
               ·
                intro w'
                go_simp
                with_reducible rfl
               rotate_left
               ·
                simp only [Act.put, List.setIfInBounds_toArray, List.set_cons_zero, List.set_cons_succ, i64_w, i32_w]
                rfl
               refine pure_ (i := 1) (N := some 107) (v := ?_) (a' := ?_) #[true, true, false, false, false, false, false, false, false, false, false, false, false, false, false, false, false, false, false, false, false, false, false, false] rfl rfl (any_of HT_.out (by kernel_rfl)) (fun _ _ _ h => h) (Or.inl ⟨by rfl, ?_⟩) ?_ ?_
               rotate_left
               ·
                intro w'
                go_simp
                with_reducible rfl
               rotate_left
               ·
                simp only [Act.put, List.setIfInBounds_toArray, List.set_cons_zero, List.set_cons_succ, i64_w, i32_w]
                rfl
               refine pure_ (i := 2) (N := some 108) (v := ?_) (a' := ?_) #[true, true, true, false, false, false, false, false, false, false, false, false, false, false, false, false, false, false, false, false, false, false, false, false] rfl rfl (any_of HT_.out (by kernel_rfl)) (fun _ _ _ h => h) (Or.inl ⟨by rfl, ?_⟩) ?_ ?_
               rotate_left
               ·
                intro w'
                go_simp
                with_reducible rfl
               rotate_left
               ·
                simp only [Act.put, List.setIfInBounds_toArray, List.set_cons_zero, List.set_cons_succ, i64_w, i32_w]
                rfl
               refine pure_ (i := 3) (N := some 109) (v := ?_) (a' := ?_) #[true, true, true, true, false, false, false, false, false, false, false, false, false, false, false, false, false, false, false, false, false, false, false, false] rfl rfl (any_of HT_.out (by kernel_rfl)) (fun _ _ _ h => h) (Or.inl ⟨by rfl, ?_⟩) ?_ ?_
               rotate_left
               ·
                intro w'
                go_simp
                with_reducible rfl
               rotate_left
               ·
                simp only [Act.put, List.setIfInBounds_toArray, List.set_cons_zero, List.set_cons_succ, i64_w, i32_w]
                rfl
               refine pure_ (i := 5) (N := some 111) (v := ?_) (a' := ?_) #[true, true, true, true, false, true, false, false, false, false, false, false, false, false, false, false, false, false, false, false, false, false, false, false] rfl rfl (any_of HT_.out (by kernel_rfl)) (fun _ _ _ h => h) (Or.inl ⟨by rfl, ?_⟩) ?_ ?_
               rotate_left
               ·
                intro w'
                go_simp
                with_reducible rfl
               rotate_left
               ·
                simp only [Act.put, List.setIfInBounds_toArray, List.set_cons_zero, List.set_cons_succ, i64_w, i32_w]
                rfl
               refine pure_ (i := 6) (N := some 112) (v := ?_) (a' := ?_) #[true, true, true, true, false, true, true, false, false, false, false, false, false, false, false, false, false, false, false, false, false, false, false, false] rfl rfl (any_of HT_.out (by kernel_rfl)) (fun _ _ _ h => h) (Or.inl ⟨by rfl, ?_⟩) ?_ ?_
               rotate_left
               ·
                intro w'
                go_simp
                with_reducible rfl
               rotate_left
               ·
                simp only [Act.put, List.setIfInBounds_toArray, List.set_cons_zero, List.set_cons_succ, i64_w, i32_w]
                rfl
               refine pure_ (i := 7) (N := some 113) (v := ?_) (a' := ?_) #[true, true, true, true, false, true, true, true, false, false, false, false, false, false, false, false, false, false, false, false, false, false, false, false] rfl rfl (any_of HT_.out (by kernel_rfl)) (fun _ _ _ h => h) (Or.inl ⟨by rfl, ?_⟩) ?_ ?_
               rotate_left
               ·
                intro w'
                go_simp
                with_reducible rfl
               rotate_left
               ·
                simp only [Act.put, List.setIfInBounds_toArray, List.set_cons_zero, List.set_cons_succ, i64_w, i32_w]
                rfl
               refine pure_ (i := 8) (N := some 114) (v := ?_) (a' := ?_) #[true, true, true, true, false, true, true, true, true, false, false, false, false, false, false, false, false, false, false, false, false, false, false, false] rfl rfl (any_of HT_.out (by kernel_rfl)) (fun _ _ _ h => h) (Or.inl ⟨by rfl, ?_⟩) ?_ ?_
               rotate_left
               ·
                intro w'
                go_simp
                with_reducible rfl
               rotate_left
               ·
                simp only [Act.put, List.setIfInBounds_toArray, List.set_cons_zero, List.set_cons_succ, i64_w, i32_w]
                rfl
               refine take_ (i := 4) (N := some 110) (v := ?_) (a' := ?_) #[true, true, true, true, true, true, true, true, true, false, false, false, false, false, false, false, false, false, false, false, false, false, false, false] rfl rfl (take_ofW HT_.out HW_.out (by kernel_rfl)) (fun _ _ _ h => h) (Or.inl ⟨by rfl, ?_⟩) hHeld ?_ ?_
               rotate_left
               ·
                rintro w' ⟨s0, s1, s2, s3, s4, s5⟩
                go_simp
                with_reducible rfl
               rotate_left
               ·
                simp only [Act.put, List.setIfInBounds_toArray, List.set_cons_zero, List.set_cons_succ, i64_w, i32_w]
                rfl
               refine take_ (i := 9) (N := some 115) (v := ?_) (a' := ?_) #[true, true, true, true, true, true, true, true, true, true, false, false, false, false, false, false, false, false, false, false, false, false, false, false] rfl rfl (take_ofW HT_.out HW_.out (by kernel_rfl)) (fun _ _ _ h => h) (Or.inl ⟨by rfl, ?_⟩) hHeld ?_ ?_
               rotate_left
               ·
                rintro w' ⟨s0, s1, s2, s3, s4, s5⟩
                go_simp
                with_reducible rfl
               rotate_left
               ·
                simp only [Act.put, List.setIfInBounds_toArray, List.set_cons_zero, List.set_cons_succ, i64_w, i32_w]
                rfl
               refine pure_ (i := 10) (N := some 116) (v := ?_) (a' := ?_) #[true, true, true, true, true, true, true, true, true, true, true, false, false, false, false, false, false, false, false, false, false, false, false, false] rfl rfl (any_of HT_.out (by kernel_rfl)) (fun _ _ _ h => h) (Or.inl ⟨by rfl, ?_⟩) ?_ ?_
               rotate_left
               ·
                intro w'
                go_simp
                with_reducible rfl
               rotate_left
               ·
                simp only [Act.put, List.setIfInBounds_toArray, List.set_cons_zero, List.set_cons_succ, i64_w, i32_w]
                rfl
               refine pure_ (i := 11) (N := some 117) (v := ?_) (a' := ?_) #[true, true, true, true, true, true, true, true, true, true, true, true, false, false, false, false, false, false, false, false, false, false, false, false] rfl rfl (any_of HT_.out (by kernel_rfl)) (fun _ _ _ h => h) (Or.inl ⟨by rfl, ?_⟩) ?_ ?_
               rotate_left
               ·
                intro w'
                go_simp
                with_reducible rfl
               rotate_left
               ·
                simp only [Act.put, List.setIfInBounds_toArray, List.set_cons_zero, List.set_cons_succ, i64_w, i32_w]
                rfl
               refine pure_ (i := 12) (N := some 118) (v := undef) (a' := ?_) #[true, true, true, true, true, true, true, true, true, true, true, true, true, false, false, false, false, false, false, false, false, false, false, false] rfl rfl (any_of HT_.out (by kernel_rfl)) (fun _ _ _ h => h) (Or.inr ⟨by rfl, rfl⟩) ?_ ?_
               rotate_left
               ·
                simp only [Act.put, List.setIfInBounds_toArray, List.set_cons_zero, List.set_cons_succ, i64_w, i32_w]
                rfl
               refine pure_ (i := 13) (N := some 119) (v := undef) (a' := ?_) #[true, true, true, true, true, true, true, true, true, true, true, true, true, true, false, false, false, false, false, false, false, false, false, false] rfl rfl (any_of HT_.out (by kernel_rfl)) (fun _ _ _ h => h) (Or.inr ⟨by rfl, rfl⟩) ?_ ?_
               rotate_left
               ·
                simp only [Act.put, List.setIfInBounds_toArray, List.set_cons_zero, List.set_cons_succ, i64_w, i32_w]
                rfl
               refine pure_ (i := 14) (N := some 120) (v := undef) (a' := ?_) #[true, true, true, true, true, true, true, true, true, true, true, true, true, true, true, false, false, false, false, false, false, false, false, false] rfl rfl (any_of HT_.out (by kernel_rfl)) (fun _ _ _ h => h) (Or.inr ⟨by rfl, rfl⟩) ?_ ?_
               rotate_left
               ·
                simp only [Act.put, List.setIfInBounds_toArray, List.set_cons_zero, List.set_cons_succ, i64_w, i32_w]
                rfl
               refine pure_ (i := 15) (N := some 121) (v := undef) (a' := ?_) #[true, true, true, true, true, true, true, true, true, true, true, true, true, true, true, true, false, false, false, false, false, false, false, false] rfl rfl (any_of HT_.out (by kernel_rfl)) (fun _ _ _ h => h) (Or.inr ⟨by rfl, rfl⟩) ?_ ?_
               rotate_left
               ·
                simp only [Act.put, List.setIfInBounds_toArray, List.set_cons_zero, List.set_cons_succ, i64_w, i32_w]
                rfl
               refine pure_ (i := 16) (N := some 122) (v := undef) (a' := ?_) #[true, true, true, true, true, true, true, true, true, true, true, true, true, true, true, true, true, false, false, false, false, false, false, false] rfl rfl (any_of HT_.out (by kernel_rfl)) (fun _ _ _ h => h) (Or.inr ⟨by rfl, rfl⟩) ?_ ?_
               rotate_left
               ·
                simp only [Act.put, List.setIfInBounds_toArray, List.set_cons_zero, List.set_cons_succ, i64_w, i32_w]
                rfl
               refine pure_ (i := 17) (N := some 123) (v := undef) (a' := ?_) #[true, true, true, true, true, true, true, true, true, true, true, true, true, true, true, true, true, true, false, false, false, false, false, false] rfl rfl (any_of HT_.out (by kernel_rfl)) (fun _ _ _ h => h) (Or.inr ⟨by rfl, rfl⟩) ?_ ?_
               rotate_left
               ·
                simp only [Act.put, List.setIfInBounds_toArray, List.set_cons_zero, List.set_cons_succ, i64_w, i32_w]
                rfl
               refine pure_ (i := 18) (N := some 124) (v := undef) (a' := ?_) #[true, true, true, true, true, true, true, true, true, true, true, true, true, true, true, true, true, true, true, false, false, false, false, false] rfl rfl (any_of HT_.out (by kernel_rfl)) (fun _ _ _ h => h) (Or.inr ⟨by rfl, rfl⟩) ?_ ?_
               rotate_left
               ·
                simp only [Act.put, List.setIfInBounds_toArray, List.set_cons_zero, List.set_cons_succ, i64_w, i32_w]
                rfl
               refine pure_ (i := 19) (N := some 125) (v := undef) (a' := ?_) #[true, true, true, true, true, true, true, true, true, true, true, true, true, true, true, true, true, true, true, true, false, false, false, false] rfl rfl (any_of HT_.out (by kernel_rfl)) (fun _ _ _ h => h) (Or.inr ⟨by rfl, rfl⟩) ?_ ?_
               rotate_left
               ·
                simp only [Act.put, List.setIfInBounds_toArray, List.set_cons_zero, List.set_cons_succ, i64_w, i32_w]
                rfl
               refine pure_ (i := 20) (N := some 126) (v := undef) (a' := ?_) #[true, true, true, true, true, true, true, true, true, true, true, true, true, true, true, true, true, true, true, true, true, false, false, false] rfl rfl (any_of HT_.out (by kernel_rfl)) (fun _ _ _ h => h) (Or.inr ⟨by rfl, rfl⟩) ?_ ?_
               rotate_left
               ·
                simp only [Act.put, List.setIfInBounds_toArray, List.set_cons_zero, List.set_cons_succ, i64_w, i32_w]
                rfl
               refine pure_ (i := 21) (N := some 127) (v := undef) (a' := ?_) #[true, true, true, true, true, true, true, true, true, true, true, true, true, true, true, true, true, true, true, true, true, true, false, false] rfl rfl (any_of HT_.out (by kernel_rfl)) (fun _ _ _ h => h) (Or.inr ⟨by rfl, rfl⟩) ?_ ?_
               rotate_left
               ·
                simp only [Act.put, List.setIfInBounds_toArray, List.set_cons_zero, List.set_cons_succ, i64_w, i32_w]
                rfl
               refine pure_ (i := 22) (N := some 128) (v := undef) (a' := ?_) #[true, true, true, true, true, true, true, true, true, true, true, true, true, true, true, true, true, true, true, true, true, true, true, false] rfl rfl (any_of HT_.out (by kernel_rfl)) (fun _ _ _ h => h) (Or.inr ⟨by rfl, rfl⟩) ?_ ?_
               rotate_left
               ·
                simp only [Act.put, List.setIfInBounds_toArray, List.set_cons_zero, List.set_cons_succ, i64_w, i32_w]
                rfl
               refine pure_ (i := 23) (N := some 129) (v := ?_) (a' := ?_) #[true, true, true, true, true, true, true, true, true, true, true, true, true, true, true, true, true, true, true, true, true, true, true, true] rfl rfl (any_of HT_.out (by kernel_rfl)) (fun _ _ _ h => h) (Or.inl ⟨by rfl, ?_⟩) ?_ ?_
               rotate_left
               ·
                intro w'
                go_simp
                with_reducible rfl
               rotate_left
               ·
                simp only [Act.put, List.setIfInBounds_toArray, List.set_cons_zero, List.set_cons_succ, i64_w, i32_w]
                rfl
               refine done_ (done_of HT_.out (by kernel_rfl)) ?_
               try go_wp2
               go_meet
               case rel => exact ⟨_, (true), (by first | rfl | (simp; done) | (simp [*]; done)), H', ⟨by have := HJ13.out; have := HK2.out; have := HJ49.out; first | omega | exact Nat.le_refl _⟩, ⟨by (with_reducible repeat (first | apply Kd.R_alloc | apply Kd.R_drewN | apply Kd.R_drew)); exact HO_14.out⟩, ⟨by (with_reducible repeat (first | apply Kd.R_alloc | apply Kd.R_drewN | apply Kd.R_drew)); exact HO_16.out⟩, ⟨by (with_reducible repeat (first | apply Kd.R_alloc | apply Kd.R_drewN | apply Kd.R_drew)); exact HO_239000.out⟩, ⟨by (with_reducible repeat (first | refine blk_drewN ?_ _ | refine blk_drew ?_ | refine blk_alloc ?_ _)); exact BK238.out⟩, ⟨by repeat (first | (with_reducible first | exact HB.out | apply below_alloc | apply pw_below_drewN | apply below_drew1 | refine below_set ?_ GE238.out) | exact HB.out)⟩⟩
              ·
               rw [if_neg c56] at H
               have c56b0 : decide (((rd_T39 t247 x25_2).f2) < ((rd_T39 t247 x25_2).f1)) = false := decide_eq_false c56
               clear c56
               by_cases c58 : t250 ≥ 0
               ·
                rw [if_pos c58] at H
                have c58b0 : decide (0 ≤ t250) = true := decide_eq_true c58
                clear c58
                have H' := Aside0.mk H
                clear H
                try go_wp2
                have n0_ := Aside0.mk (Kd.R_drew HO_14.out)
                have n1_ := Aside0.mk (Kd.R_drew HO_16.out)
                have n2_ := Aside0.mk (Kd.R_drew HO_239000.out)
                have n3_ := Aside0.mk (blk_drew BK238.out)
                have n4_ := Aside0.mk (below_drew1 HB.out)
                clear HO_14
                clear HO_16
                clear HO_239000
                clear BK238
                clear HB
                have HO_14 := n0_
                have HO_16 := n1_
                have HO_239000 := n2_
                have BK238 := n3_
                have HB := n4_
                clear n0_ n1_ n2_ n3_ n4_
                have p260 : 0 ≤ (x25_2 : Int) := of_decide_eq_true (by first | (with_reducible assumption) | assumption)
                have q260 : x25_2 < (t247.length : Int) := of_decide_eq_true (by first | (with_reducible assumption) | assumption)
                obtain ⟨ad260, e260, hx260_0, hx260_1, hx260_2⟩ := at_T39 (Kd.R_reads' HO_16.out).2.2 x25_2 p260 q260
                obtain rfl : ad259 = ad260 := (by injection e260)
                replace p260 := eq_true p260
                replace q260 := eq_true q260
                have p261 : 0 ≤ (x25_2 : Int) := of_decide_eq_true (by first | (with_reducible assumption) | assumption)
                have q261 : x25_2 < (t247.length : Int) := of_decide_eq_true (by first | (with_reducible assumption) | assumption)
                obtain ⟨ad261, e261, hx261_0, hx261_1, hx261_2⟩ := at_T39 (Kd.R_reads' HO_16.out).2.2 x25_2 p261 q261
                obtain rfl : ad259 = ad261 := (by injection e261)
                replace p261 := eq_true p261
                replace q261 := eq_true q261
                have p262 : 0 ≤ (x25_2 : Int) := of_decide_eq_true (by first | (with_reducible assumption) | assumption)
                have q262 : x25_2 < (t247.length : Int) := of_decide_eq_true (by first | (with_reducible assumption) | assumption)
                obtain ⟨ad262, e262, hx262_0, hx262_1, hx262_2⟩ := at_T39 (Kd.R_reads' HO_16.out).2.2 x25_2 p262 q262
                obtain rfl : ad259 = ad262 := (by injection e262)
                replace p262 := eq_true p262
                replace q262 := eq_true q262
                refine start_ (n := 24) (S := fun w' => w'.cell? (ad259.add ((x25_2).toNat * 3)) = some (.int .i64 ((rd_T39 t247 x25_2).f0)) ∧ w'.cell? ⟨(ad259.add ((x25_2).toNat * 3)).block, (ad259.add ((x25_2).toNat * 3)).off + 1, none⟩ = some (.int .i64 ((rd_T39 t247 x25_2).f1)) ∧ w'.cell? ⟨(ad259.add ((x25_2).toNat * 3)).block, (ad259.add ((x25_2).toNat * 3)).off + 2, none⟩ = some (.int .i64 ((rd_T39 t247 x25_2).f2)) ∧ w'.cell? (ad259.add ((x25_2).toNat * 3)) = some (.int .i64 ((rd_T39 t247 x25_2).f0)) ∧ w'.cell? ⟨(ad259.add ((x25_2).toNat * 3)).block, (ad259.add ((x25_2).toNat * 3)).off + 1, none⟩ = some (.int .i64 ((rd_T39 t247 x25_2).f1)) ∧ w'.cell? ⟨(ad259.add ((x25_2).toNat * 3)).block, (ad259.add ((x25_2).toNat * 3)).off + 2, none⟩ = some (.int .i64 ((rd_T39 t247 x25_2).f2)) ∧ w'.cell? (ad259.add ((x25_2).toNat * 3)) = some (.int .i64 ((rd_T39 t247 x25_2).f0)) ∧ w'.cell? ⟨(ad259.add ((x25_2).toNat * 3)).block, (ad259.add ((x25_2).toNat * 3)).off + 1, none⟩ = some (.int .i64 ((rd_T39 t247 x25_2).f1)) ∧ w'.cell? ⟨(ad259.add ((x25_2).toNat * 3)).block, (ad259.add ((x25_2).toNat * 3)).off + 2, none⟩ = some (.int .i64 ((rd_T39 t247 x25_2).f2))) (ds := []) #[false, false, false, false, false, false, false, false, false, false, false, false, false, false, false, false, false, false, false, false, false, false, false, false] (by kernel_rfl) rfl rfl ⟨hx260_0, hx260_1, hx260_2, hx261_0, hx261_1, hx261_2, hx262_0, hx262_1, hx262_2⟩ (fun hHeld => ?_); refine with_tabW dialtonelaw34_RecoveryStorms.tab19 dialtonelaw34_RecoveryStorms.bits19 (fun HT_ HW_ => ?_)
                generalize wc.drew = w59 at HO_14 HO_16 HO_239000 BK238 HB hx260_0 hx260_1 hx260_2 hx261_0 hx261_1 hx261_2 hx262_0 hx262_1 hx262_2 hHeld ⊢
                refine pure_ (i := 0) (N := some 106) (v := ?_) (a' := ?_) #[true, false, false, false, false, false, false, false, false, false, false, false, false, false, false, false, false, false, false, false, false, false, false, false] rfl rfl (any_of HT_.out (by kernel_rfl)) (fun _ _ _ h => h) (Or.inl ⟨by rfl, ?_⟩) ?_ ?_
                rotate_left
                ·
                 intro w'
                 go_simp
                 with_reducible rfl
                rotate_left
                ·
                 simp only [Act.put, List.setIfInBounds_toArray, List.set_cons_zero, List.set_cons_succ, i64_w, i32_w]
                 rfl
                refine pure_ (i := 1) (N := some 107) (v := ?_) (a' := ?_) #[true, true, false, false, false, false, false, false, false, false, false, false, false, false, false, false, false, false, false, false, false, false, false, false] rfl rfl (any_of HT_.out (by kernel_rfl)) (fun _ _ _ h => h) (Or.inl ⟨by rfl, ?_⟩) ?_ ?_
                rotate_left
                ·
                 intro w'
                 go_simp
                 with_reducible rfl
                rotate_left
                ·
                 simp only [Act.put, List.setIfInBounds_toArray, List.set_cons_zero, List.set_cons_succ, i64_w, i32_w]
                 rfl
                refine pure_ (i := 2) (N := some 108) (v := ?_) (a' := ?_) #[true, true, true, false, false, false, false, false, false, false, false, false, false, false, false, false, false, false, false, false, false, false, false, false] rfl rfl (any_of HT_.out (by kernel_rfl)) (fun _ _ _ h => h) (Or.inl ⟨by rfl, ?_⟩) ?_ ?_
                rotate_left
                ·
                 intro w'
                 go_simp
                 with_reducible rfl
                rotate_left
                ·
                 simp only [Act.put, List.setIfInBounds_toArray, List.set_cons_zero, List.set_cons_succ, i64_w, i32_w]
                 rfl
                refine pure_ (i := 3) (N := some 109) (v := ?_) (a' := ?_) #[true, true, true, true, false, false, false, false, false, false, false, false, false, false, false, false, false, false, false, false, false, false, false, false] rfl rfl (any_of HT_.out (by kernel_rfl)) (fun _ _ _ h => h) (Or.inl ⟨by rfl, ?_⟩) ?_ ?_
                rotate_left
                ·
                 intro w'
                 go_simp
                 with_reducible rfl
                rotate_left
                ·
                 simp only [Act.put, List.setIfInBounds_toArray, List.set_cons_zero, List.set_cons_succ, i64_w, i32_w]
                 rfl
                refine pure_ (i := 5) (N := some 111) (v := ?_) (a' := ?_) #[true, true, true, true, false, true, false, false, false, false, false, false, false, false, false, false, false, false, false, false, false, false, false, false] rfl rfl (any_of HT_.out (by kernel_rfl)) (fun _ _ _ h => h) (Or.inl ⟨by rfl, ?_⟩) ?_ ?_
                rotate_left
                ·
                 intro w'
                 go_simp
                 with_reducible rfl
                rotate_left
                ·
                 simp only [Act.put, List.setIfInBounds_toArray, List.set_cons_zero, List.set_cons_succ, i64_w, i32_w]
                 rfl
                refine pure_ (i := 6) (N := some 112) (v := ?_) (a' := ?_) #[true, true, true, true, false, true, true, false, false, false, false, false, false, false, false, false, false, false, false, false, false, false, false, false] rfl rfl (any_of HT_.out (by kernel_rfl)) (fun _ _ _ h => h) (Or.inl ⟨by rfl, ?_⟩) ?_ ?_
                rotate_left
                ·
                 intro w'
                 go_simp
                 with_reducible rfl
                rotate_left
                ·
                 simp only [Act.put, List.setIfInBounds_toArray, List.set_cons_zero, List.set_cons_succ, i64_w, i32_w]
                 rfl
                refine pure_ (i := 7) (N := some 113) (v := ?_) (a' := ?_) #[true, true, true, true, false, true, true, true, false, false, false, false, false, false, false, false, false, false, false, false, false, false, false, false] rfl rfl (any_of HT_.out (by kernel_rfl)) (fun _ _ _ h => h) (Or.inl ⟨by rfl, ?_⟩) ?_ ?_
                rotate_left
                ·
                 intro w'
                 go_simp
                 with_reducible rfl
                rotate_left
                ·
                 simp only [Act.put, List.setIfInBounds_toArray, List.set_cons_zero, List.set_cons_succ, i64_w, i32_w]
                 rfl
                refine pure_ (i := 8) (N := some 114) (v := ?_) (a' := ?_) #[true, true, true, true, false, true, true, true, true, false, false, false, false, false, false, false, false, false, false, false, false, false, false, false] rfl rfl (any_of HT_.out (by kernel_rfl)) (fun _ _ _ h => h) (Or.inl ⟨by rfl, ?_⟩) ?_ ?_
                rotate_left
                ·
                 intro w'
                 go_simp
                 with_reducible rfl
                rotate_left
                ·
                 simp only [Act.put, List.setIfInBounds_toArray, List.set_cons_zero, List.set_cons_succ, i64_w, i32_w]
                 rfl
                refine take_ (i := 4) (N := some 110) (v := ?_) (a' := ?_) #[true, true, true, true, true, true, true, true, true, false, false, false, false, false, false, false, false, false, false, false, false, false, false, false] rfl rfl (take_ofW HT_.out HW_.out (by kernel_rfl)) (fun _ _ _ h => h) (Or.inl ⟨by rfl, ?_⟩) hHeld ?_ ?_
                rotate_left
                ·
                 rintro w' ⟨s0, s1, s2, s3, s4, s5, s6, s7, s8⟩
                 go_simp
                 with_reducible rfl
                rotate_left
                ·
                 simp only [Act.put, List.setIfInBounds_toArray, List.set_cons_zero, List.set_cons_succ, i64_w, i32_w]
                 rfl
                refine take_ (i := 9) (N := some 115) (v := ?_) (a' := ?_) #[true, true, true, true, true, true, true, true, true, true, false, false, false, false, false, false, false, false, false, false, false, false, false, false] rfl rfl (take_ofW HT_.out HW_.out (by kernel_rfl)) (fun _ _ _ h => h) (Or.inl ⟨by rfl, ?_⟩) hHeld ?_ ?_
                rotate_left
                ·
                 rintro w' ⟨s0, s1, s2, s3, s4, s5, s6, s7, s8⟩
                 go_simp
                 with_reducible rfl
                rotate_left
                ·
                 simp only [Act.put, List.setIfInBounds_toArray, List.set_cons_zero, List.set_cons_succ, i64_w, i32_w]
                 rfl
                refine pure_ (i := 10) (N := some 116) (v := ?_) (a' := ?_) #[true, true, true, true, true, true, true, true, true, true, true, false, false, false, false, false, false, false, false, false, false, false, false, false] rfl rfl (any_of HT_.out (by kernel_rfl)) (fun _ _ _ h => h) (Or.inl ⟨by rfl, ?_⟩) ?_ ?_
                rotate_left
                ·
                 intro w'
                 go_simp
                 with_reducible rfl
                rotate_left
                ·
                 simp only [Act.put, List.setIfInBounds_toArray, List.set_cons_zero, List.set_cons_succ, i64_w, i32_w]
                 rfl
                refine pure_ (i := 11) (N := some 117) (v := ?_) (a' := ?_) #[true, true, true, true, true, true, true, true, true, true, true, true, false, false, false, false, false, false, false, false, false, false, false, false] rfl rfl (any_of HT_.out (by kernel_rfl)) (fun _ _ _ h => h) (Or.inl ⟨by rfl, ?_⟩) ?_ ?_
                rotate_left
                ·
                 intro w'
                 go_simp
                 with_reducible rfl
                rotate_left
                ·
                 simp only [Act.put, List.setIfInBounds_toArray, List.set_cons_zero, List.set_cons_succ, i64_w, i32_w]
                 rfl
                refine pure_ (i := 12) (N := some 118) (v := ?_) (a' := ?_) #[true, true, true, true, true, true, true, true, true, true, true, true, true, false, false, false, false, false, false, false, false, false, false, false] rfl rfl (any_of HT_.out (by kernel_rfl)) (fun _ _ _ h => h) (Or.inl ⟨by rfl, ?_⟩) ?_ ?_
                rotate_left
                ·
                 intro w'
                 go_simp
                 with_reducible rfl
                rotate_left
                ·
                 simp only [Act.put, List.setIfInBounds_toArray, List.set_cons_zero, List.set_cons_succ, i64_w, i32_w]
                 rfl
                refine pure_ (i := 13) (N := some 119) (v := ?_) (a' := ?_) #[true, true, true, true, true, true, true, true, true, true, true, true, true, true, false, false, false, false, false, false, false, false, false, false] rfl rfl (any_of HT_.out (by kernel_rfl)) (fun _ _ _ h => h) (Or.inl ⟨by rfl, ?_⟩) ?_ ?_
                rotate_left
                ·
                 intro w'
                 go_simp
                 with_reducible rfl
                rotate_left
                ·
                 simp only [Act.put, List.setIfInBounds_toArray, List.set_cons_zero, List.set_cons_succ, i64_w, i32_w]
                 rfl
                refine pure_ (i := 14) (N := some 120) (v := ?_) (a' := ?_) #[true, true, true, true, true, true, true, true, true, true, true, true, true, true, true, false, false, false, false, false, false, false, false, false] rfl rfl (any_of HT_.out (by kernel_rfl)) (fun _ _ _ h => h) (Or.inl ⟨by rfl, ?_⟩) ?_ ?_
                rotate_left
                ·
                 intro w'
                 go_simp
                 with_reducible rfl
                rotate_left
                ·
                 simp only [Act.put, List.setIfInBounds_toArray, List.set_cons_zero, List.set_cons_succ, i64_w, i32_w]
                 rfl
                refine pure_ (i := 15) (N := some 121) (v := ?_) (a' := ?_) #[true, true, true, true, true, true, true, true, true, true, true, true, true, true, true, true, false, false, false, false, false, false, false, false] rfl rfl (any_of HT_.out (by kernel_rfl)) (fun _ _ _ h => h) (Or.inl ⟨by rfl, ?_⟩) ?_ ?_
                rotate_left
                ·
                 intro w'
                 go_simp
                 with_reducible rfl
                rotate_left
                ·
                 simp only [Act.put, List.setIfInBounds_toArray, List.set_cons_zero, List.set_cons_succ, i64_w, i32_w]
                 rfl
                refine pure_ (i := 16) (N := some 122) (v := ?_) (a' := ?_) #[true, true, true, true, true, true, true, true, true, true, true, true, true, true, true, true, true, false, false, false, false, false, false, false] rfl rfl (any_of HT_.out (by kernel_rfl)) (fun _ _ _ h => h) (Or.inl ⟨by rfl, ?_⟩) ?_ ?_
                rotate_left
                ·
                 intro w'
                 go_simp
                 with_reducible rfl
                rotate_left
                ·
                 simp only [Act.put, List.setIfInBounds_toArray, List.set_cons_zero, List.set_cons_succ, i64_w, i32_w]
                 rfl
                refine pure_ (i := 17) (N := some 123) (v := ?_) (a' := ?_) #[true, true, true, true, true, true, true, true, true, true, true, true, true, true, true, true, true, true, false, false, false, false, false, false] rfl rfl (any_of HT_.out (by kernel_rfl)) (fun _ _ _ h => h) (Or.inl ⟨by rfl, ?_⟩) ?_ ?_
                rotate_left
                ·
                 intro w'
                 go_simp
                 with_reducible rfl
                rotate_left
                ·
                 simp only [Act.put, List.setIfInBounds_toArray, List.set_cons_zero, List.set_cons_succ, i64_w, i32_w]
                 rfl
                refine pure_ (i := 18) (N := some 124) (v := ?_) (a' := ?_) #[true, true, true, true, true, true, true, true, true, true, true, true, true, true, true, true, true, true, true, false, false, false, false, false] rfl rfl (any_of HT_.out (by kernel_rfl)) (fun _ _ _ h => h) (Or.inl ⟨by rfl, ?_⟩) ?_ ?_
                rotate_left
                ·
                 intro w'
                 go_simp
                 with_reducible rfl
                rotate_left
                ·
                 simp only [Act.put, List.setIfInBounds_toArray, List.set_cons_zero, List.set_cons_succ, i64_w, i32_w]
                 rfl
                refine pure_ (i := 20) (N := some 126) (v := ?_) (a' := ?_) #[true, true, true, true, true, true, true, true, true, true, true, true, true, true, true, true, true, true, true, false, true, false, false, false] rfl rfl (any_of HT_.out (by kernel_rfl)) (fun _ _ _ h => h) (Or.inl ⟨by rfl, ?_⟩) ?_ ?_
                rotate_left
                ·
                 intro w'
                 go_simp
                 with_reducible rfl
                rotate_left
                ·
                 simp only [Act.put, List.setIfInBounds_toArray, List.set_cons_zero, List.set_cons_succ, i64_w, i32_w]
                 rfl
                refine take_ (i := 19) (N := some 125) (v := ?_) (a' := ?_) #[true, true, true, true, true, true, true, true, true, true, true, true, true, true, true, true, true, true, true, true, true, false, false, false] rfl rfl (take_ofW HT_.out HW_.out (by kernel_rfl)) (fun _ _ _ h => h) (Or.inl ⟨by rfl, ?_⟩) hHeld ?_ ?_
                rotate_left
                ·
                 rintro w' ⟨s0, s1, s2, s3, s4, s5, s6, s7, s8⟩
                 go_simp
                 with_reducible rfl
                rotate_left
                ·
                 simp only [Act.put, List.setIfInBounds_toArray, List.set_cons_zero, List.set_cons_succ, i64_w, i32_w]
                 rfl
                refine pure_ (i := 21) (N := some 127) (v := ?_) (a' := ?_) #[true, true, true, true, true, true, true, true, true, true, true, true, true, true, true, true, true, true, true, true, true, true, false, false] rfl rfl (any_of HT_.out (by kernel_rfl)) (fun _ _ _ h => h) (Or.inl ⟨by rfl, ?_⟩) ?_ ?_
                rotate_left
                ·
                 intro w'
                 go_simp
                 with_reducible rfl
                rotate_left
                ·
                 simp only [Act.put, List.setIfInBounds_toArray, List.set_cons_zero, List.set_cons_succ, i64_w, i32_w]
                 rfl
                refine pure_ (i := 22) (N := some 128) (v := ?_) (a' := ?_) #[true, true, true, true, true, true, true, true, true, true, true, true, true, true, true, true, true, true, true, true, true, true, true, false] rfl rfl (any_of HT_.out (by kernel_rfl)) (fun _ _ _ h => h) (Or.inl ⟨by rfl, ?_⟩) ?_ ?_
                rotate_left
                ·
                 intro w'
                 go_simp
                 with_reducible rfl
                rotate_left
                ·
                 simp only [Act.put, List.setIfInBounds_toArray, List.set_cons_zero, List.set_cons_succ, i64_w, i32_w]
                 rfl
                refine pure_ (i := 23) (N := some 129) (v := ?_) (a' := ?_) #[true, true, true, true, true, true, true, true, true, true, true, true, true, true, true, true, true, true, true, true, true, true, true, true] rfl rfl (any_of HT_.out (by kernel_rfl)) (fun _ _ _ h => h) (Or.inl ⟨by rfl, ?_⟩) ?_ ?_
                rotate_left
                ·
                 intro w'
                 go_simp
                 with_reducible rfl
                rotate_left
                ·
                 simp only [Act.put, List.setIfInBounds_toArray, List.set_cons_zero, List.set_cons_succ, i64_w, i32_w]
                 rfl
                refine done_ (done_of HT_.out (by kernel_rfl)) ?_
                try go_wp2
                go_meet
                case rel => exact ⟨_, (decide (((rd_T39 t247 x25_2).f2) > t250)), (by first | rfl | (simp; done) | (simp [*]; done)), H', ⟨by have := HJ13.out; have := HK2.out; have := HJ49.out; first | omega | exact Nat.le_refl _⟩, ⟨by (with_reducible repeat (first | apply Kd.R_alloc | apply Kd.R_drewN | apply Kd.R_drew)); exact HO_14.out⟩, ⟨by (with_reducible repeat (first | apply Kd.R_alloc | apply Kd.R_drewN | apply Kd.R_drew)); exact HO_16.out⟩, ⟨by (with_reducible repeat (first | apply Kd.R_alloc | apply Kd.R_drewN | apply Kd.R_drew)); exact HO_239000.out⟩, ⟨by (with_reducible repeat (first | refine blk_drewN ?_ _ | refine blk_drew ?_ | refine blk_alloc ?_ _)); exact BK238.out⟩, ⟨by repeat (first | (with_reducible first | exact HB.out | apply below_alloc | apply pw_below_drewN | apply below_drew1 | refine below_set ?_ GE238.out) | exact HB.out)⟩⟩
               ·
                rw [if_neg c58] at H
                have c58b0 : decide (0 ≤ t250) = false := decide_eq_false c58
                clear c58
                have H' := Aside0.mk H
                clear H
                try go_wp2
                have n0_ := Aside0.mk (Kd.R_drew HO_14.out)
                have n1_ := Aside0.mk (Kd.R_drew HO_16.out)
                have n2_ := Aside0.mk (Kd.R_drew HO_239000.out)
                have n3_ := Aside0.mk (blk_drew BK238.out)
                have n4_ := Aside0.mk (below_drew1 HB.out)
                clear HO_14
                clear HO_16
                clear HO_239000
                clear BK238
                clear HB
                have HO_14 := n0_
                have HO_16 := n1_
                have HO_239000 := n2_
                have BK238 := n3_
                have HB := n4_
                clear n0_ n1_ n2_ n3_ n4_
                have p260 : 0 ≤ (x25_2 : Int) := of_decide_eq_true (by first | (with_reducible assumption) | assumption)
                have q260 : x25_2 < (t247.length : Int) := of_decide_eq_true (by first | (with_reducible assumption) | assumption)
                obtain ⟨ad260, e260, hx260_0, hx260_1, hx260_2⟩ := at_T39 (Kd.R_reads' HO_16.out).2.2 x25_2 p260 q260
                obtain rfl : ad259 = ad260 := (by injection e260)
                replace p260 := eq_true p260
                replace q260 := eq_true q260
                have p261 : 0 ≤ (x25_2 : Int) := of_decide_eq_true (by first | (with_reducible assumption) | assumption)
                have q261 : x25_2 < (t247.length : Int) := of_decide_eq_true (by first | (with_reducible assumption) | assumption)
                obtain ⟨ad261, e261, hx261_0, hx261_1, hx261_2⟩ := at_T39 (Kd.R_reads' HO_16.out).2.2 x25_2 p261 q261
                obtain rfl : ad259 = ad261 := (by injection e261)
                replace p261 := eq_true p261
                replace q261 := eq_true q261
                refine start_ (n := 24) (S := fun w' => w'.cell? (ad259.add ((x25_2).toNat * 3)) = some (.int .i64 ((rd_T39 t247 x25_2).f0)) ∧ w'.cell? ⟨(ad259.add ((x25_2).toNat * 3)).block, (ad259.add ((x25_2).toNat * 3)).off + 1, none⟩ = some (.int .i64 ((rd_T39 t247 x25_2).f1)) ∧ w'.cell? ⟨(ad259.add ((x25_2).toNat * 3)).block, (ad259.add ((x25_2).toNat * 3)).off + 2, none⟩ = some (.int .i64 ((rd_T39 t247 x25_2).f2)) ∧ w'.cell? (ad259.add ((x25_2).toNat * 3)) = some (.int .i64 ((rd_T39 t247 x25_2).f0)) ∧ w'.cell? ⟨(ad259.add ((x25_2).toNat * 3)).block, (ad259.add ((x25_2).toNat * 3)).off + 1, none⟩ = some (.int .i64 ((rd_T39 t247 x25_2).f1)) ∧ w'.cell? ⟨(ad259.add ((x25_2).toNat * 3)).block, (ad259.add ((x25_2).toNat * 3)).off + 2, none⟩ = some (.int .i64 ((rd_T39 t247 x25_2).f2))) (ds := []) #[false, false, false, false, false, false, false, false, false, false, false, false, false, false, false, false, false, false, false, false, false, false, false, false] (by kernel_rfl) rfl rfl ⟨hx260_0, hx260_1, hx260_2, hx261_0, hx261_1, hx261_2⟩ (fun hHeld => ?_); refine with_tabW dialtonelaw34_RecoveryStorms.tab19 dialtonelaw34_RecoveryStorms.bits19 (fun HT_ HW_ => ?_)
                generalize wc.drew = w60 at HO_14 HO_16 HO_239000 BK238 HB hx260_0 hx260_1 hx260_2 hx261_0 hx261_1 hx261_2 hHeld ⊢
                refine pure_ (i := 0) (N := some 106) (v := ?_) (a' := ?_) #[true, false, false, false, false, false, false, false, false, false, false, false, false, false, false, false, false, false, false, false, false, false, false, false] rfl rfl (any_of HT_.out (by kernel_rfl)) (fun _ _ _ h => h) (Or.inl ⟨by rfl, ?_⟩) ?_ ?_
                rotate_left
                ·
                 intro w'
                 go_simp
                 with_reducible rfl
                rotate_left
                ·
                 simp only [Act.put, List.setIfInBounds_toArray, List.set_cons_zero, List.set_cons_succ, i64_w, i32_w]
                 rfl
                refine pure_ (i := 1) (N := some 107) (v := ?_) (a' := ?_) #[true, true, false, false, false, false, false, false, false, false, false, false, false, false, false, false, false, false, false, false, false, false, false, false] rfl rfl (any_of HT_.out (by kernel_rfl)) (fun _ _ _ h => h) (Or.inl ⟨by rfl, ?_⟩) ?_ ?_
                rotate_left
                ·
                 intro w'
                 go_simp
                 with_reducible rfl
                rotate_left
                ·
                 simp only [Act.put, List.setIfInBounds_toArray, List.set_cons_zero, List.set_cons_succ, i64_w, i32_w]
                 rfl
                refine pure_ (i := 2) (N := some 108) (v := ?_) (a' := ?_) #[true, true, true, false, false, false, false, false, false, false, false, false, false, false, false, false, false, false, false, false, false, false, false, false] rfl rfl (any_of HT_.out (by kernel_rfl)) (fun _ _ _ h => h) (Or.inl ⟨by rfl, ?_⟩) ?_ ?_
                rotate_left
                ·
                 intro w'
                 go_simp
                 with_reducible rfl
                rotate_left
                ·
                 simp only [Act.put, List.setIfInBounds_toArray, List.set_cons_zero, List.set_cons_succ, i64_w, i32_w]
                 rfl
                refine pure_ (i := 3) (N := some 109) (v := ?_) (a' := ?_) #[true, true, true, true, false, false, false, false, false, false, false, false, false, false, false, false, false, false, false, false, false, false, false, false] rfl rfl (any_of HT_.out (by kernel_rfl)) (fun _ _ _ h => h) (Or.inl ⟨by rfl, ?_⟩) ?_ ?_
                rotate_left
                ·
                 intro w'
                 go_simp
                 with_reducible rfl
                rotate_left
                ·
                 simp only [Act.put, List.setIfInBounds_toArray, List.set_cons_zero, List.set_cons_succ, i64_w, i32_w]
                 rfl
                refine pure_ (i := 5) (N := some 111) (v := ?_) (a' := ?_) #[true, true, true, true, false, true, false, false, false, false, false, false, false, false, false, false, false, false, false, false, false, false, false, false] rfl rfl (any_of HT_.out (by kernel_rfl)) (fun _ _ _ h => h) (Or.inl ⟨by rfl, ?_⟩) ?_ ?_
                rotate_left
                ·
                 intro w'
                 go_simp
                 with_reducible rfl
                rotate_left
                ·
                 simp only [Act.put, List.setIfInBounds_toArray, List.set_cons_zero, List.set_cons_succ, i64_w, i32_w]
                 rfl
                refine pure_ (i := 6) (N := some 112) (v := ?_) (a' := ?_) #[true, true, true, true, false, true, true, false, false, false, false, false, false, false, false, false, false, false, false, false, false, false, false, false] rfl rfl (any_of HT_.out (by kernel_rfl)) (fun _ _ _ h => h) (Or.inl ⟨by rfl, ?_⟩) ?_ ?_
                rotate_left
                ·
                 intro w'
                 go_simp
                 with_reducible rfl
                rotate_left
                ·
                 simp only [Act.put, List.setIfInBounds_toArray, List.set_cons_zero, List.set_cons_succ, i64_w, i32_w]
                 rfl
                refine pure_ (i := 7) (N := some 113) (v := ?_) (a' := ?_) #[true, true, true, true, false, true, true, true, false, false, false, false, false, false, false, false, false, false, false, false, false, false, false, false] rfl rfl (any_of HT_.out (by kernel_rfl)) (fun _ _ _ h => h) (Or.inl ⟨by rfl, ?_⟩) ?_ ?_
                rotate_left
                ·
                 intro w'
                 go_simp
                 with_reducible rfl
                rotate_left
                ·
                 simp only [Act.put, List.setIfInBounds_toArray, List.set_cons_zero, List.set_cons_succ, i64_w, i32_w]
                 rfl
                refine pure_ (i := 8) (N := some 114) (v := ?_) (a' := ?_) #[true, true, true, true, false, true, true, true, true, false, false, false, false, false, false, false, false, false, false, false, false, false, false, false] rfl rfl (any_of HT_.out (by kernel_rfl)) (fun _ _ _ h => h) (Or.inl ⟨by rfl, ?_⟩) ?_ ?_
                rotate_left
                ·
                 intro w'
                 go_simp
                 with_reducible rfl
                rotate_left
                ·
                 simp only [Act.put, List.setIfInBounds_toArray, List.set_cons_zero, List.set_cons_succ, i64_w, i32_w]
                 rfl
                refine take_ (i := 4) (N := some 110) (v := ?_) (a' := ?_) #[true, true, true, true, true, true, true, true, true, false, false, false, false, false, false, false, false, false, false, false, false, false, false, false] rfl rfl (take_ofW HT_.out HW_.out (by kernel_rfl)) (fun _ _ _ h => h) (Or.inl ⟨by rfl, ?_⟩) hHeld ?_ ?_
                rotate_left
                ·
                 rintro w' ⟨s0, s1, s2, s3, s4, s5⟩
                 go_simp
                 with_reducible rfl
                rotate_left
                ·
                 simp only [Act.put, List.setIfInBounds_toArray, List.set_cons_zero, List.set_cons_succ, i64_w, i32_w]
                 rfl
                refine take_ (i := 9) (N := some 115) (v := ?_) (a' := ?_) #[true, true, true, true, true, true, true, true, true, true, false, false, false, false, false, false, false, false, false, false, false, false, false, false] rfl rfl (take_ofW HT_.out HW_.out (by kernel_rfl)) (fun _ _ _ h => h) (Or.inl ⟨by rfl, ?_⟩) hHeld ?_ ?_
                rotate_left
                ·
                 rintro w' ⟨s0, s1, s2, s3, s4, s5⟩
                 go_simp
                 with_reducible rfl
                rotate_left
                ·
                 simp only [Act.put, List.setIfInBounds_toArray, List.set_cons_zero, List.set_cons_succ, i64_w, i32_w]
                 rfl
                refine pure_ (i := 10) (N := some 116) (v := ?_) (a' := ?_) #[true, true, true, true, true, true, true, true, true, true, true, false, false, false, false, false, false, false, false, false, false, false, false, false] rfl rfl (any_of HT_.out (by kernel_rfl)) (fun _ _ _ h => h) (Or.inl ⟨by rfl, ?_⟩) ?_ ?_
                rotate_left
                ·
                 intro w'
                 go_simp
                 with_reducible rfl
                rotate_left
                ·
                 simp only [Act.put, List.setIfInBounds_toArray, List.set_cons_zero, List.set_cons_succ, i64_w, i32_w]
                 rfl
                refine pure_ (i := 11) (N := some 117) (v := ?_) (a' := ?_) #[true, true, true, true, true, true, true, true, true, true, true, true, false, false, false, false, false, false, false, false, false, false, false, false] rfl rfl (any_of HT_.out (by kernel_rfl)) (fun _ _ _ h => h) (Or.inl ⟨by rfl, ?_⟩) ?_ ?_
                rotate_left
                ·
                 intro w'
                 go_simp
                 with_reducible rfl
                rotate_left
                ·
                 simp only [Act.put, List.setIfInBounds_toArray, List.set_cons_zero, List.set_cons_succ, i64_w, i32_w]
                 rfl
                refine pure_ (i := 12) (N := some 118) (v := ?_) (a' := ?_) #[true, true, true, true, true, true, true, true, true, true, true, true, true, false, false, false, false, false, false, false, false, false, false, false] rfl rfl (any_of HT_.out (by kernel_rfl)) (fun _ _ _ h => h) (Or.inl ⟨by rfl, ?_⟩) ?_ ?_
                rotate_left
                ·
                 intro w'
                 go_simp
                 with_reducible rfl
                rotate_left
                ·
                 simp only [Act.put, List.setIfInBounds_toArray, List.set_cons_zero, List.set_cons_succ, i64_w, i32_w]
                 rfl
                refine pure_ (i := 13) (N := some 119) (v := ?_) (a' := ?_) #[true, true, true, true, true, true, true, true, true, true, true, true, true, true, false, false, false, false, false, false, false, false, false, false] rfl rfl (any_of HT_.out (by kernel_rfl)) (fun _ _ _ h => h) (Or.inl ⟨by rfl, ?_⟩) ?_ ?_
                rotate_left
                ·
                 intro w'
                 go_simp
                 with_reducible rfl
                rotate_left
                ·
                 simp only [Act.put, List.setIfInBounds_toArray, List.set_cons_zero, List.set_cons_succ, i64_w, i32_w]
                 rfl
                refine pure_ (i := 14) (N := some 120) (v := ?_) (a' := ?_) #[true, true, true, true, true, true, true, true, true, true, true, true, true, true, true, false, false, false, false, false, false, false, false, false] rfl rfl (any_of HT_.out (by kernel_rfl)) (fun _ _ _ h => h) (Or.inl ⟨by rfl, ?_⟩) ?_ ?_
                rotate_left
                ·
                 intro w'
                 go_simp
                 with_reducible rfl
                rotate_left
                ·
                 simp only [Act.put, List.setIfInBounds_toArray, List.set_cons_zero, List.set_cons_succ, i64_w, i32_w]
                 rfl
                refine pure_ (i := 15) (N := some 121) (v := undef) (a' := ?_) #[true, true, true, true, true, true, true, true, true, true, true, true, true, true, true, true, false, false, false, false, false, false, false, false] rfl rfl (any_of HT_.out (by kernel_rfl)) (fun _ _ _ h => h) (Or.inr ⟨by rfl, rfl⟩) ?_ ?_
                rotate_left
                ·
                 simp only [Act.put, List.setIfInBounds_toArray, List.set_cons_zero, List.set_cons_succ, i64_w, i32_w]
                 rfl
                refine pure_ (i := 16) (N := some 122) (v := undef) (a' := ?_) #[true, true, true, true, true, true, true, true, true, true, true, true, true, true, true, true, true, false, false, false, false, false, false, false] rfl rfl (any_of HT_.out (by kernel_rfl)) (fun _ _ _ h => h) (Or.inr ⟨by rfl, rfl⟩) ?_ ?_
                rotate_left
                ·
                 simp only [Act.put, List.setIfInBounds_toArray, List.set_cons_zero, List.set_cons_succ, i64_w, i32_w]
                 rfl
                refine pure_ (i := 17) (N := some 123) (v := undef) (a' := ?_) #[true, true, true, true, true, true, true, true, true, true, true, true, true, true, true, true, true, true, false, false, false, false, false, false] rfl rfl (any_of HT_.out (by kernel_rfl)) (fun _ _ _ h => h) (Or.inr ⟨by rfl, rfl⟩) ?_ ?_
                rotate_left
                ·
                 simp only [Act.put, List.setIfInBounds_toArray, List.set_cons_zero, List.set_cons_succ, i64_w, i32_w]
                 rfl
                refine pure_ (i := 18) (N := some 124) (v := undef) (a' := ?_) #[true, true, true, true, true, true, true, true, true, true, true, true, true, true, true, true, true, true, true, false, false, false, false, false] rfl rfl (any_of HT_.out (by kernel_rfl)) (fun _ _ _ h => h) (Or.inr ⟨by rfl, rfl⟩) ?_ ?_
                rotate_left
                ·
                 simp only [Act.put, List.setIfInBounds_toArray, List.set_cons_zero, List.set_cons_succ, i64_w, i32_w]
                 rfl
                refine pure_ (i := 19) (N := some 125) (v := undef) (a' := ?_) #[true, true, true, true, true, true, true, true, true, true, true, true, true, true, true, true, true, true, true, true, false, false, false, false] rfl rfl (any_of HT_.out (by kernel_rfl)) (fun _ _ _ h => h) (Or.inr ⟨by rfl, rfl⟩) ?_ ?_
                rotate_left
                ·
                 simp only [Act.put, List.setIfInBounds_toArray, List.set_cons_zero, List.set_cons_succ, i64_w, i32_w]
                 rfl
                refine pure_ (i := 20) (N := some 126) (v := undef) (a' := ?_) #[true, true, true, true, true, true, true, true, true, true, true, true, true, true, true, true, true, true, true, true, true, false, false, false] rfl rfl (any_of HT_.out (by kernel_rfl)) (fun _ _ _ h => h) (Or.inr ⟨by rfl, rfl⟩) ?_ ?_
                rotate_left
                ·
                 simp only [Act.put, List.setIfInBounds_toArray, List.set_cons_zero, List.set_cons_succ, i64_w, i32_w]
                 rfl
                refine pure_ (i := 21) (N := some 127) (v := undef) (a' := ?_) #[true, true, true, true, true, true, true, true, true, true, true, true, true, true, true, true, true, true, true, true, true, true, false, false] rfl rfl (any_of HT_.out (by kernel_rfl)) (fun _ _ _ h => h) (Or.inr ⟨by rfl, rfl⟩) ?_ ?_
                rotate_left
                ·
                 simp only [Act.put, List.setIfInBounds_toArray, List.set_cons_zero, List.set_cons_succ, i64_w, i32_w]
                 rfl
                refine pure_ (i := 22) (N := some 128) (v := ?_) (a' := ?_) #[true, true, true, true, true, true, true, true, true, true, true, true, true, true, true, true, true, true, true, true, true, true, true, false] rfl rfl (any_of HT_.out (by kernel_rfl)) (fun _ _ _ h => h) (Or.inl ⟨by rfl, ?_⟩) ?_ ?_
                rotate_left
                ·
                 intro w'
                 go_simp
                 with_reducible rfl
                rotate_left
                ·
                 simp only [Act.put, List.setIfInBounds_toArray, List.set_cons_zero, List.set_cons_succ, i64_w, i32_w]
                 rfl
                refine pure_ (i := 23) (N := some 129) (v := ?_) (a' := ?_) #[true, true, true, true, true, true, true, true, true, true, true, true, true, true, true, true, true, true, true, true, true, true, true, true] rfl rfl (any_of HT_.out (by kernel_rfl)) (fun _ _ _ h => h) (Or.inl ⟨by rfl, ?_⟩) ?_ ?_
                rotate_left
                ·
                 intro w'
                 go_simp
                 with_reducible rfl
                rotate_left
                ·
                 simp only [Act.put, List.setIfInBounds_toArray, List.set_cons_zero, List.set_cons_succ, i64_w, i32_w]
                 rfl
                refine done_ (done_of HT_.out (by kernel_rfl)) ?_
                try go_wp2
                go_meet
                case rel => exact ⟨_, (false), (by first | rfl | (simp; done) | (simp [*]; done)), H', ⟨by have := HJ13.out; have := HK2.out; have := HJ49.out; first | omega | exact Nat.le_refl _⟩, ⟨by (with_reducible repeat (first | apply Kd.R_alloc | apply Kd.R_drewN | apply Kd.R_drew)); exact HO_14.out⟩, ⟨by (with_reducible repeat (first | apply Kd.R_alloc | apply Kd.R_drewN | apply Kd.R_drew)); exact HO_16.out⟩, ⟨by (with_reducible repeat (first | apply Kd.R_alloc | apply Kd.R_drewN | apply Kd.R_drew)); exact HO_239000.out⟩, ⟨by (with_reducible repeat (first | refine blk_drewN ?_ _ | refine blk_drew ?_ | refine blk_alloc ?_ _)); exact BK238.out⟩, ⟨by repeat (first | (with_reducible first | exact HB.out | apply below_alloc | apply pw_below_drewN | apply below_drew1 | refine below_set ?_ GE238.out) | exact HB.out)⟩⟩
             ·
              rw [if_neg c55] at H
              exact absurd H (by simp)
            ·
             rw [if_neg c54] at H
             exact absurd H (by simp)
           case rest =>
            clear HC53
            try clear p2
            try clear q2
            try clear hx2
            try clear c5
            try clear p26
            try clear q26
            try clear hx26
            try clear c54
            try clear c55
            try clear c56
            try clear c56b0
            try clear c58
            try clear c58b0
            try clear hx260_0
            try clear hx260_1
            try clear hx260_2
            try clear hx261_0
            try clear hx261_1
            try clear hx261_2
            try clear hx262_0
            try clear hx262_1
            try clear hx262_2
            try clear p260
            try clear p261
            try clear p262
            try clear q260
            try clear q261
            try clear q262
            obtain ⟨kq, x129_52, rfl, HA, HJ52, HO_14, HO_16, HO_239000, BK238, HB⟩ := hcut
            cases kq with
            | zero => exact absurd HA.out (by simp [dialtonelaw34_RecoveryStorms.j3])
            | succ kj52 =>
             have H := HA.out
             clear HA
             simp only [dialtonelaw34_RecoveryStorms.j3] at H
             by_cases c61 : x129_52 = true
             ·
              subst c61
              have H1 : (none) = some r := by rw [if_pos rfl] at H; exact H
              clear H
              have H := H1
              clear H1
              exact absurd H (by simp)
             ·
              replace c61 := Bool.eq_false_iff.mpr c61
              subst c61
              have H1 : (dialtonelaw34_RecoveryStorms.l0 kj52 t242 t247 t250 t258 x23_49 0 (wrap64 (x25_2 + 1))) = some r := by rw [if_neg (show ¬ (false = true) by decide)] at H; exact H
              clear H
              have H := H1
              clear H1
              have H' := Aside0.mk H
              clear H
              go_wp2
              go_roundg kj52
              case measure => have := HJ13.out; have := HK2.out; have := HJ49.out; have := HJ52.out; omega
              case rel => exact ⟨(x23_49), (wrap64 (x25_2 + 1)), (by first | rfl | (simp; done) | (simp [*]; done)), (by first | rfl | (simp; done) | (simp [*]; done)), H', ⟨by have := HJ13.out; have := HK2.out; have := HJ49.out; have := HJ52.out; omega⟩, ⟨by (with_reducible repeat (first | apply Kd.R_alloc | apply Kd.R_drewN | apply Kd.R_drew)); exact HO_14.out⟩, ⟨by (with_reducible repeat (first | apply Kd.R_alloc | apply Kd.R_drewN | apply Kd.R_drew)); exact HO_16.out⟩, ⟨by (with_reducible repeat (first | apply Kd.R_alloc | apply Kd.R_drewN | apply Kd.R_drew)); exact HO_239000.out⟩, ⟨by (with_reducible repeat (first | refine blk_drewN ?_ _ | refine blk_drew ?_ | refine blk_alloc ?_ _)); exact BK238.out⟩, ⟨by repeat (first | (with_reducible first | exact HB.out | apply below_alloc | apply pw_below_drewN | apply below_drew1 | refine below_set ?_ GE238.out) | exact HB.out)⟩⟩
        ·
         rw [if_neg c49] at H
         exact absurd H (by simp)
       ·
        rw [if_neg c48] at H
        have c48b0 : decide (x25_2 < (t247.length : Int)) = false := decide_eq_false c48
        clear c48
        have H' := Aside0.mk H
        clear H
        obtain ⟨Ao62, co62, eo62⟩ := Kd.R_slice HO_16.out
        subst eo62
        go_wp2
        go_loopg [24, 26] k2 (fun kq v24 v26 w' => ∃ (x24_3 : Int) (x26_3 : Int), v24 = .int .i64 x24_3 ∧ v26 = .int .i64 x26_3 ∧ Aside0 (dialtonelaw34_RecoveryStorms.l1 kq t242 t258 x23_2 x24_3 x26_3 = some r) ∧ Aside0 (kq ≤ k2) ∧ Aside0 (Kd.R k39 39 w' w.heap.size (fun _ => True) v243 t242) ∧ Aside0 (Kd.R k67 67 w' w.heap.size (fun _ => True) (.slice Ao18 t234.length co18) t234) ∧ Aside0 (w'.heap[gb238]? = some (.cells #[(.slice Ao18 t234.length co18), .int .i64 t237] 26 (0, 0))) ∧ Aside0 (Below w.heap.size w w'))
        case atStart => exact ⟨(0), (0), (by first | rfl | (simp; done) | (simp [*]; done)), (by first | rfl | (simp; done) | (simp [*]; done)), H', ⟨Nat.le_refl _⟩, ⟨by (with_reducible repeat (first | apply Kd.R_alloc | apply Kd.R_drewN | apply Kd.R_drew)); exact Kd.R_mono HO_14.out (fun _ hk => trivial)⟩, ⟨by (with_reducible repeat (first | apply Kd.R_alloc | apply Kd.R_drewN | apply Kd.R_drew)); exact HO_239000.out⟩, ⟨by (with_reducible repeat (first | refine blk_drewN ?_ _ | refine blk_drew ?_ | refine blk_alloc ?_ _)); exact BK238.out⟩, ⟨by repeat (first | (with_reducible first | exact HB.out | apply below_alloc | apply pw_below_drewN | apply below_drew1 | refine below_set ?_ GE238.out) | exact HB.out)⟩⟩
        case round =>
         clear H'
         try clear p2
         try clear q2
         try clear hx2
         try clear c4
         try clear c5
         try clear c6
         try clear p6
         try clear p26
         try clear q26
         try clear hx26
         try clear c48
         try clear c48b0
         try clear c49
         try clear c54
         try clear c55
         try clear c56
         try clear c56b0
         try clear c58
         try clear c58b0
         try clear c61
         try clear hx260_0
         try clear hx260_1
         try clear hx260_2
         try clear hx261_0
         try clear hx261_1
         try clear hx261_2
         try clear hx262_0
         try clear hx262_1
         try clear hx262_2
         try clear p2
         try clear p26
         try clear p260
         try clear p261
         try clear p262
         try clear q2
         try clear q26
         try clear q260
         try clear q261
         try clear q262
         obtain ⟨x24_3, x26_3, rfl, rfl, HA, HK3, HO_14, HO_239000, BK238, HB⟩ := hrel
         cases gk with
         | zero => exact absurd HA.out (by simp [dialtonelaw34_RecoveryStorms.l1])
         | succ k3 =>
          have H := HA.out
          clear HA
          simp only [dialtonelaw34_RecoveryStorms.l1] at H
          by_cases c63 : x26_3 < (t242.length : Int)
          ·
           rw [if_pos c63] at H
           have c63b0 : decide (x26_3 < (t242.length : Int)) = true := decide_eq_true c63
           clear c63
           by_cases c64 : 0 ≤ x26_3
           ·
            rw [if_pos c64] at H
            have c64b0 : decide (0 ≤ x26_3) = true := decide_eq_true c64
            clear c64
            by_cases c65 : ((rd_T39 t242 x26_3).f2) ≤ t258
            ·
             rw [if_pos c65] at H
             have c65b0 : decide (((rd_T39 t242 x26_3).f2) ≤ t258) = true := decide_eq_true c65
             clear c65
             have H' := Aside0.mk H
             clear H
             obtain ⟨Ao66, co66, eo66⟩ := Kd.R_slice HO_14.out
             subst eo66
             have p263 : 0 ≤ (x26_3 : Int) := of_decide_eq_true (by first | (with_reducible assumption) | assumption)
             have q263 : x26_3 < (t242.length : Int) := of_decide_eq_true (by first | (with_reducible assumption) | assumption)
             obtain ⟨ad263, e263, hx263_0, hx263_1, hx263_2⟩ := at_T39 (Kd.R_reads' HO_14.out).2.2 x26_3 p263 q263
             cases e263
             replace p263 := eq_true p263
             replace q263 := eq_true q263
             go_wp2
             go_roundg k3
             case measure => have := HJ13.out; have := HK2.out; have := HK3.out; omega
             case rel => exact ⟨(wrap64 (x24_3 + 1)), (wrap64 (x26_3 + 1)), (by first | rfl | (simp; done) | (simp [*]; done)), (by first | rfl | (simp; done) | (simp [*]; done)), H', ⟨by have := HJ13.out; have := HK2.out; have := HK3.out; omega⟩, ⟨by (with_reducible repeat (first | apply Kd.R_alloc | apply Kd.R_drewN | apply Kd.R_drew)); exact HO_14.out⟩, ⟨by (with_reducible repeat (first | apply Kd.R_alloc | apply Kd.R_drewN | apply Kd.R_drew)); exact HO_239000.out⟩, ⟨by (with_reducible repeat (first | refine blk_drewN ?_ _ | refine blk_drew ?_ | refine blk_alloc ?_ _)); exact BK238.out⟩, ⟨by repeat (first | (with_reducible first | exact HB.out | apply below_alloc | apply pw_below_drewN | apply below_drew1 | refine below_set ?_ GE238.out) | exact HB.out)⟩⟩
            ·
             rw [if_neg c65] at H
             have c65b0 : decide (((rd_T39 t242 x26_3).f2) ≤ t258) = false := decide_eq_false c65
             clear c65
             have H' := Aside0.mk H
             clear H
             obtain ⟨Ao67, co67, eo67⟩ := Kd.R_slice HO_14.out
             subst eo67
             have p263 : 0 ≤ (x26_3 : Int) := of_decide_eq_true (by first | (with_reducible assumption) | assumption)
             have q263 : x26_3 < (t242.length : Int) := of_decide_eq_true (by first | (with_reducible assumption) | assumption)
             obtain ⟨ad263, e263, hx263_0, hx263_1, hx263_2⟩ := at_T39 (Kd.R_reads' HO_14.out).2.2 x26_3 p263 q263
             cases e263
             replace p263 := eq_true p263
             replace q263 := eq_true q263
             go_wp2
             go_roundg k3
             case measure => have := HJ13.out; have := HK2.out; have := HK3.out; omega
             case rel => exact ⟨(x24_3), (wrap64 (x26_3 + 1)), (by first | rfl | (simp; done) | (simp [*]; done)), (by first | rfl | (simp; done) | (simp [*]; done)), H', ⟨by have := HJ13.out; have := HK2.out; have := HK3.out; omega⟩, ⟨by (with_reducible repeat (first | apply Kd.R_alloc | apply Kd.R_drewN | apply Kd.R_drew)); exact HO_14.out⟩, ⟨by (with_reducible repeat (first | apply Kd.R_alloc | apply Kd.R_drewN | apply Kd.R_drew)); exact HO_239000.out⟩, ⟨by (with_reducible repeat (first | refine blk_drewN ?_ _ | refine blk_drew ?_ | refine blk_alloc ?_ _)); exact BK238.out⟩, ⟨by repeat (first | (with_reducible first | exact HB.out | apply below_alloc | apply pw_below_drewN | apply below_drew1 | refine below_set ?_ GE238.out) | exact HB.out)⟩⟩
           ·
            rw [if_neg c64] at H
            exact absurd H (by simp)
          ·
           rw [if_neg c63] at H
           have c63b0 : decide (x26_3 < (t242.length : Int)) = false := decide_eq_false c63
           clear c63
           obtain rfl := Option.some.inj H
           obtain ⟨Ao68, co68, eo68⟩ := Kd.R_slice HO_14.out
           subst eo68
           go_wp2
           go_ret
           exact ⟨by first | rfl | (simp [errW_none, errW_some] <;> rfl) | (simp [*, errW_none, errW_some] <;> rfl), by repeat (first | (with_reducible first | exact HB.out | apply below_alloc | apply pw_below_drewN | apply below_drew1 | refine below_set ?_ GE238.out) | exact HB.out)⟩
 ·
  replace c7 := Bool.eq_false_iff.mpr c7
  subst c7
  have H1 : (none) = some r := by rw [if_neg (show ¬ (false = true) by decide)] at H; exact H
  clear H
  have H := H1
  clear H1
  exact absurd H (by simp)

end Go.Proofs.Ytcldldmedphcfaa.C
