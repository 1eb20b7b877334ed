-- Written for this claim by a program of this session (wip/tools/hprint.py) out of the translation. Lean checks it.
import Derived.Test.YthbonailomfjlaaCKinds
import Derived.Test.YthbonailomfjlaaEq1
import Derived.Test.YthbonailomfjlaaCSpread
import Derived.Test.YthbonailomfjlaaCAgree
import Derived.Test.YthbonailomfjlaaCValid
import Derived.Test.YthbonailomfjlaaCAt
import Derived.Test.YthbonailomfjlaaCBefore
import Derived.Test.YthbonailomfjlaaCSane
import Derived.Test.YthbonailomfjlaaCRefSpread
import Derived.Test.YthbonailomfjlaaCRefAgree
import Derived.Test.YthbonailomfjlaaCMade
import Derived.Test.YthbonailomfjlaaCRefValid
import Derived.Test.YthbonailomfjlaaCRefAt
import Derived.Test.YthbonailomfjlaaHFew
import Derived.Test.YthbonailomfjlaaHPick
import Derived.Test.YthbonailomfjlaaHReads
namespace Go.Proofs.Ythbonailomfjlaa.C
open Go.RowKit Go.Proofs.YthbonailomfjlaaW.PrintWords Go.Proofs.YthbonailomfjlaaW.PrintLast Go.Proofs.YthbonailomfjlaaW.PrintMore
attribute [local go_sem] max2_int min2_int max_two min_two max_three min_three max_four min_four   -- for this text's walks alone
set_option linter.unusedVariables false
set_option linter.unusedSimpArgs false

attribute [local go_sem high] eqA32
/-! ### dialtonelaw05_ClockMatchesReference: function 3 -/
mutual
def dialtonelaw05_ClockMatchesReference.j0 : Nat → Int → Int → List Int → List (S60) → Int → Int → Bool → Bool → Int → List (S50) → Option (Bool)
 | 0, _, _, _, _, _, _, _, _, _, _ => none
 | k + 1, x1, x2, x3, x4, x5, x6, x17, x94, x229000, x229001 => if x94 = true then (none) else ((dialtonelaw05_few.f x229000 x229001).bind fun bt250 => ((dialtoneref05_Made.f k x1 x2 x3 x4).bind fun bt254 => (dialtonelaw05_ClockMatchesReference.l0 k x5 x6 x17 (([(⟨bt250.1, bt250.2⟩ : S24), (⟨bt254.1, bt254.2⟩ : S24)] : List (S24))) 0)))
def dialtonelaw05_ClockMatchesReference.l0 : Nat → Int → Int → Bool → List (S24) → Int → Option (Bool)
 | 0, _, _, _, _, _ => none
 | k + 1, x5, x6, x17, x26, x27 => if x27 < 2 then (if 0 ≤ x27 then (if x27 < (x26.length : Int) then ((clock_Valid.f k ((rd_T24 x26 x27).f0) ((rd_T24 x26 x27).f1)).bind fun t263 => ((dialtoneref05_Valid.f k ((rd_T24 x26 x27).f0) ((rd_T24 x26 x27).f1)).bind fun t264 => (if (t263 != t264) = true then (none) else ((dialtonelaw05_pick.f x5 5000).bind fun t265 => ((dialtonelaw05_pick.f x6 5000).bind fun t269 => (dialtonelaw05_ClockMatchesReference.l1 k x5 x6 x17 x26 x27 (([x5, t265] : List Int)) (([x6, t269] : List Int)) 0 ((rd_T24 x26 x27).f0) ((rd_T24 x26 x27).f1))))))) else (none)) else (none)) else (some x17)
def dialtonelaw05_ClockMatchesReference.l1 : Nat → Int → Int → Bool → List (S24) → Int → List Int → List Int → Int → Int → List (S50) → Option (Bool)
 | 0, _, _, _, _, _, _, _, _, _, _ => none
 | k + 1, x5, x6, x17, x26, x27, x29, x30, x31, x263000, x263001 => if x31 < 2 then (if 0 ≤ x31 then (if x31 < (x29.length : Int) then ((clock_At.f k x263000 x263001 (rd x29 x31)).bind fun bt274 => ((dialtoneref05_At.f k x263000 x263001 (rd x29 x31)).bind fun bt278 => (if x31 < (x30.length : Int) then ((clock_Reads.f x263000 x263001 (rd x30 x31)).bind fun bt282 => ((dialtoneref05_Reads.f k x263000 x263001 (rd x30 x31)).bind fun bt286 => (if bt274.1 = bt278.1 then (if bt274.2.1 = bt278.2.1 then (if bt274.2.2 = bt278.2.2 then (if bt282.1 = bt286.1 then (if bt282.2.1 = bt286.2.1 then (dialtonelaw05_ClockMatchesReference.j3 k x5 x6 x17 x26 x27 x29 x30 x31 (bt282.2.2 != bt286.2.2) x263000 x263001) else (dialtonelaw05_ClockMatchesReference.j3 k x5 x6 x17 x26 x27 x29 x30 x31 true x263000 x263001)) else (dialtonelaw05_ClockMatchesReference.j3 k x5 x6 x17 x26 x27 x29 x30 x31 true x263000 x263001)) else (dialtonelaw05_ClockMatchesReference.j3 k x5 x6 x17 x26 x27 x29 x30 x31 true x263000 x263001)) else (dialtonelaw05_ClockMatchesReference.j3 k x5 x6 x17 x26 x27 x29 x30 x31 true x263000 x263001)) else (dialtonelaw05_ClockMatchesReference.j3 k x5 x6 x17 x26 x27 x29 x30 x31 true x263000 x263001)))) else (none)))) else (none)) else (none)) else (dialtonelaw05_ClockMatchesReference.l0 k x5 x6 x17 x26 (wrap64 (x27 + 1)))
def dialtonelaw05_ClockMatchesReference.j3 : Nat → Int → Int → Bool → List (S24) → Int → List Int → List Int → Int → Bool → Int → List (S50) → Option (Bool)
 | 0, _, _, _, _, _, _, _, _, _, _, _ => none
 | k + 1, x5, x6, x17, x26, x27, x29, x30, x31, x195, x263000, x263001 => if x195 = true then (none) else (if 0 ≤ x31 then (if x31 < (x29.length : Int) then (if x31 < (x30.length : Int) then ((clock_Before.f k x263000 x263001 (rd x29 x31) (rd x30 x31)).bind fun t291 => ((dialtoneref05_Before.f k x263000 x263001 (rd x29 x31) (rd x30 x31)).bind fun t294 => (if (t291 != t294) = true then (none) else ((clock_After.f k x263000 x263001 (rd x29 x31) (rd x30 x31)).bind fun t297 => ((dialtoneref05_After.f k x263000 x263001 (rd x29 x31) (rd x30 x31)).bind fun t300 => (if (t297 != t300) = true then (none) else (dialtonelaw05_ClockMatchesReference.l1 k x5 x6 x17 x26 x27 x29 x30 (wrap64 (x31 + 1)) x263000 x263001))))))) else (none)) else (none)) else (none))
end
def dialtonelaw05_ClockMatchesReference.f (k : Nat) (a0_0 : Int) (l0_1 : List (S50)) (a1 : Int) (a2 : Int) (l3 : List Int) (l4 : List (S60)) (a5 : Int) (a6 : Int) (l7 : List (S32)) : Option (Bool) := (dialtonelaw05_sane.f k).bind fun t229 => (if t229 = true then ((clock_Spread.f k a1 a5).bind fun bt230 => ((dialtoneref05_Spread.f k a1 a5).bind fun bt232 => (if 0 ≤ (mn (l7.length : Int) 20) then (if (mn (l7.length : Int) 20) ≤ (l7.length : Int) then ((clock_Agree.f k (l7.take ((mn (l7.length : Int) 20) : Int).toNat)).bind fun bt238 => ((dialtoneref05_Agree.f k (l7.take ((mn (l7.length : Int) 20) : Int).toNat)).bind fun bt246 => (if bt230.1 = bt232.1 then (if bt230.2 = bt232.2 then (if (!(bt238.1 == bt246.1) || (!(bt238.2.1 == bt246.2.1))) = true then (dialtonelaw05_ClockMatchesReference.j0 k a1 a2 l3 l4 a5 a6 t229 true a0_0 l0_1) else (dialtonelaw05_ClockMatchesReference.j0 k a1 a2 l3 l4 a5 a6 t229 (bt238.2.2 != bt246.2.2) a0_0 l0_1)) else (dialtonelaw05_ClockMatchesReference.j0 k a1 a2 l3 l4 a5 a6 t229 true a0_0 l0_1)) else (dialtonelaw05_ClockMatchesReference.j0 k a1 a2 l3 l4 a5 a6 t229 true a0_0 l0_1)))) else (none)) else (none)))) else (none))
theorem dialtonelaw05_ClockMatchesReference.mono_l : ∀ k, (∀ y0 y1 y2 y3 y4 y5 y6 y7 y8 y9, LeO (dialtonelaw05_ClockMatchesReference.j0 k y0 y1 y2 y3 y4 y5 y6 y7 y8 y9) (dialtonelaw05_ClockMatchesReference.j0 (k + 1) y0 y1 y2 y3 y4 y5 y6 y7 y8 y9)) ∧ (∀ y0 y1 y2 y3 y4, LeO (dialtonelaw05_ClockMatchesReference.l0 k y0 y1 y2 y3 y4) (dialtonelaw05_ClockMatchesReference.l0 (k + 1) y0 y1 y2 y3 y4)) ∧ (∀ y0 y1 y2 y3 y4 y5 y6 y7 y8 y9, LeO (dialtonelaw05_ClockMatchesReference.l1 k y0 y1 y2 y3 y4 y5 y6 y7 y8 y9) (dialtonelaw05_ClockMatchesReference.l1 (k + 1) y0 y1 y2 y3 y4 y5 y6 y7 y8 y9)) ∧ (∀ y0 y1 y2 y3 y4 y5 y6 y7 y8 y9 y10, LeO (dialtonelaw05_ClockMatchesReference.j3 k y0 y1 y2 y3 y4 y5 y6 y7 y8 y9 y10) (dialtonelaw05_ClockMatchesReference.j3 (k + 1) y0 y1 y2 y3 y4 y5 y6 y7 y8 y9 y10))
 | 0 => ⟨fun _ _ _ _ _ _ _ _ _ _ r h => by simp [dialtonelaw05_ClockMatchesReference.j0] at h, fun _ _ _ _ _ r h => by simp [dialtonelaw05_ClockMatchesReference.l0] at h, fun _ _ _ _ _ _ _ _ _ _ r h => by simp [dialtonelaw05_ClockMatchesReference.l1] at h, fun _ _ _ _ _ _ _ _ _ _ _ r h => by simp [dialtonelaw05_ClockMatchesReference.j3] at h⟩
 | k + 1 => by
  obtain ⟨ih0, ih1, ih2, ih3⟩ := dialtonelaw05_ClockMatchesReference.mono_l k
  refine ⟨?_, ?_, ?_, ?_⟩
  ·
   intro y0 y1 y2 y3 y4 y5 y6 y7 y8 y9
   unfold dialtonelaw05_ClockMatchesReference.j0
   repeat' first
   | (with_reducible exact ih0 _ _ _ _ _ _ _ _ _ _)
   | (with_reducible exact ih1 _ _ _ _ _)
   | (with_reducible exact ih2 _ _ _ _ _ _ _ _ _ _)
   | (with_reducible exact ih3 _ _ _ _ _ _ _ _ _ _ _)
   | (with_reducible exact clock_After.mono _ _ _ _ _)
   | (with_reducible exact clock_Agree.mono _ _)
   | (with_reducible exact clock_At.mono _ _ _ _)
   | (with_reducible exact clock_Before.mono _ _ _ _ _)
   | (with_reducible exact clock_Spread.mono _ _ _)
   | (with_reducible exact clock_Valid.mono _ _ _)
   | (with_reducible exact dialtonelaw05_sane.mono _)
   | (with_reducible exact dialtoneref05_After.mono _ _ _ _ _)
   | (with_reducible exact dialtoneref05_Agree.mono _ _)
   | (with_reducible exact dialtoneref05_At.mono _ _ _ _)
   | (with_reducible exact dialtoneref05_Before.mono _ _ _ _ _)
   | (with_reducible exact dialtoneref05_Made.mono _ _ _ _ _)
   | (with_reducible exact dialtoneref05_Reads.mono _ _ _ _)
   | (with_reducible exact dialtoneref05_Spread.mono _ _ _)
   | (with_reducible exact dialtoneref05_Valid.mono _ _ _)
   | (with_reducible exact LeO.refl _)
   | (with_reducible exact LeO.none _)
   | (with_reducible refine LeO.ite ?_ ?_)
   | (with_reducible refine LeO.bind ?_ (fun _ => ?_))
   | exact ih0 _ _ _ _ _ _ _ _ _ _
   | exact ih1 _ _ _ _ _
   | exact ih2 _ _ _ _ _ _ _ _ _ _
   | exact ih3 _ _ _ _ _ _ _ _ _ _ _
   | exact clock_After.mono _ _ _ _ _
   | exact clock_Agree.mono _ _
   | exact clock_At.mono _ _ _ _
   | exact clock_Before.mono _ _ _ _ _
   | exact clock_Spread.mono _ _ _
   | exact clock_Valid.mono _ _ _
   | exact dialtonelaw05_sane.mono _
   | exact dialtoneref05_After.mono _ _ _ _ _
   | exact dialtoneref05_Agree.mono _ _
   | exact dialtoneref05_At.mono _ _ _ _
   | exact dialtoneref05_Before.mono _ _ _ _ _
   | exact dialtoneref05_Made.mono _ _ _ _ _
   | exact dialtoneref05_Reads.mono _ _ _ _
   | exact dialtoneref05_Spread.mono _ _ _
   | exact dialtoneref05_Valid.mono _ _ _
   | exact LeO.none _
   | refine LeO.ite ?_ ?_
   | refine LeO.bind ?_ (fun _ => ?_)
  ·
   intro y0 y1 y2 y3 y4
   unfold dialtonelaw05_ClockMatchesReference.l0
   repeat' first
   | (with_reducible exact ih0 _ _ _ _ _ _ _ _ _ _)
   | (with_reducible exact ih1 _ _ _ _ _)
   | (with_reducible exact ih2 _ _ _ _ _ _ _ _ _ _)
   | (with_reducible exact ih3 _ _ _ _ _ _ _ _ _ _ _)
   | (with_reducible exact clock_After.mono _ _ _ _ _)
   | (with_reducible exact clock_Agree.mono _ _)
   | (with_reducible exact clock_At.mono _ _ _ _)
   | (with_reducible exact clock_Before.mono _ _ _ _ _)
   | (with_reducible exact clock_Spread.mono _ _ _)
   | (with_reducible exact clock_Valid.mono _ _ _)
   | (with_reducible exact dialtonelaw05_sane.mono _)
   | (with_reducible exact dialtoneref05_After.mono _ _ _ _ _)
   | (with_reducible exact dialtoneref05_Agree.mono _ _)
   | (with_reducible exact dialtoneref05_At.mono _ _ _ _)
   | (with_reducible exact dialtoneref05_Before.mono _ _ _ _ _)
   | (with_reducible exact dialtoneref05_Made.mono _ _ _ _ _)
   | (with_reducible exact dialtoneref05_Reads.mono _ _ _ _)
   | (with_reducible exact dialtoneref05_Spread.mono _ _ _)
   | (with_reducible exact dialtoneref05_Valid.mono _ _ _)
   | (with_reducible exact LeO.refl _)
   | (with_reducible exact LeO.none _)
   | (with_reducible refine LeO.ite ?_ ?_)
   | (with_reducible refine LeO.bind ?_ (fun _ => ?_))
   | exact ih0 _ _ _ _ _ _ _ _ _ _
   | exact ih1 _ _ _ _ _
   | exact ih2 _ _ _ _ _ _ _ _ _ _
   | exact ih3 _ _ _ _ _ _ _ _ _ _ _
   | exact clock_After.mono _ _ _ _ _
   | exact clock_Agree.mono _ _
   | exact clock_At.mono _ _ _ _
   | exact clock_Before.mono _ _ _ _ _
   | exact clock_Spread.mono _ _ _
   | exact clock_Valid.mono _ _ _
   | exact dialtonelaw05_sane.mono _
   | exact dialtoneref05_After.mono _ _ _ _ _
   | exact dialtoneref05_Agree.mono _ _
   | exact dialtoneref05_At.mono _ _ _ _
   | exact dialtoneref05_Before.mono _ _ _ _ _
   | exact dialtoneref05_Made.mono _ _ _ _ _
   | exact dialtoneref05_Reads.mono _ _ _ _
   | exact dialtoneref05_Spread.mono _ _ _
   | exact dialtoneref05_Valid.mono _ _ _
   | exact LeO.none _
   | refine LeO.ite ?_ ?_
   | refine LeO.bind ?_ (fun _ => ?_)
  ·
   intro y0 y1 y2 y3 y4 y5 y6 y7 y8 y9
   unfold dialtonelaw05_ClockMatchesReference.l1
   repeat' first
   | (with_reducible exact ih0 _ _ _ _ _ _ _ _ _ _)
   | (with_reducible exact ih1 _ _ _ _ _)
   | (with_reducible exact ih2 _ _ _ _ _ _ _ _ _ _)
   | (with_reducible exact ih3 _ _ _ _ _ _ _ _ _ _ _)
   | (with_reducible exact clock_After.mono _ _ _ _ _)
   | (with_reducible exact clock_Agree.mono _ _)
   | (with_reducible exact clock_At.mono _ _ _ _)
   | (with_reducible exact clock_Before.mono _ _ _ _ _)
   | (with_reducible exact clock_Spread.mono _ _ _)
   | (with_reducible exact clock_Valid.mono _ _ _)
   | (with_reducible exact dialtonelaw05_sane.mono _)
   | (with_reducible exact dialtoneref05_After.mono _ _ _ _ _)
   | (with_reducible exact dialtoneref05_Agree.mono _ _)
   | (with_reducible exact dialtoneref05_At.mono _ _ _ _)
   | (with_reducible exact dialtoneref05_Before.mono _ _ _ _ _)
   | (with_reducible exact dialtoneref05_Made.mono _ _ _ _ _)
   | (with_reducible exact dialtoneref05_Reads.mono _ _ _ _)
   | (with_reducible exact dialtoneref05_Spread.mono _ _ _)
   | (with_reducible exact dialtoneref05_Valid.mono _ _ _)
   | (with_reducible exact LeO.refl _)
   | (with_reducible exact LeO.none _)
   | (with_reducible refine LeO.ite ?_ ?_)
   | (with_reducible refine LeO.bind ?_ (fun _ => ?_))
   | exact ih0 _ _ _ _ _ _ _ _ _ _
   | exact ih1 _ _ _ _ _
   | exact ih2 _ _ _ _ _ _ _ _ _ _
   | exact ih3 _ _ _ _ _ _ _ _ _ _ _
   | exact clock_After.mono _ _ _ _ _
   | exact clock_Agree.mono _ _
   | exact clock_At.mono _ _ _ _
   | exact clock_Before.mono _ _ _ _ _
   | exact clock_Spread.mono _ _ _
   | exact clock_Valid.mono _ _ _
   | exact dialtonelaw05_sane.mono _
   | exact dialtoneref05_After.mono _ _ _ _ _
   | exact dialtoneref05_Agree.mono _ _
   | exact dialtoneref05_At.mono _ _ _ _
   | exact dialtoneref05_Before.mono _ _ _ _ _
   | exact dialtoneref05_Made.mono _ _ _ _ _
   | exact dialtoneref05_Reads.mono _ _ _ _
   | exact dialtoneref05_Spread.mono _ _ _
   | exact dialtoneref05_Valid.mono _ _ _
   | exact LeO.none _
   | refine LeO.ite ?_ ?_
   | refine LeO.bind ?_ (fun _ => ?_)
  ·
   intro y0 y1 y2 y3 y4 y5 y6 y7 y8 y9 y10
   unfold dialtonelaw05_ClockMatchesReference.j3
   repeat' first
   | (with_reducible exact ih0 _ _ _ _ _ _ _ _ _ _)
   | (with_reducible exact ih1 _ _ _ _ _)
   | (with_reducible exact ih2 _ _ _ _ _ _ _ _ _ _)
   | (with_reducible exact ih3 _ _ _ _ _ _ _ _ _ _ _)
   | (with_reducible exact clock_After.mono _ _ _ _ _)
   | (with_reducible exact clock_Agree.mono _ _)
   | (with_reducible exact clock_At.mono _ _ _ _)
   | (with_reducible exact clock_Before.mono _ _ _ _ _)
   | (with_reducible exact clock_Spread.mono _ _ _)
   | (with_reducible exact clock_Valid.mono _ _ _)
   | (with_reducible exact dialtonelaw05_sane.mono _)
   | (with_reducible exact dialtoneref05_After.mono _ _ _ _ _)
   | (with_reducible exact dialtoneref05_Agree.mono _ _)
   | (with_reducible exact dialtoneref05_At.mono _ _ _ _)
   | (with_reducible exact dialtoneref05_Before.mono _ _ _ _ _)
   | (with_reducible exact dialtoneref05_Made.mono _ _ _ _ _)
   | (with_reducible exact dialtoneref05_Reads.mono _ _ _ _)
   | (with_reducible exact dialtoneref05_Spread.mono _ _ _)
   | (with_reducible exact dialtoneref05_Valid.mono _ _ _)
   | (with_reducible exact LeO.refl _)
   | (with_reducible exact LeO.none _)
   | (with_reducible refine LeO.ite ?_ ?_)
   | (with_reducible refine LeO.bind ?_ (fun _ => ?_))
   | exact ih0 _ _ _ _ _ _ _ _ _ _
   | exact ih1 _ _ _ _ _
   | exact ih2 _ _ _ _ _ _ _ _ _ _
   | exact ih3 _ _ _ _ _ _ _ _ _ _ _
   | exact clock_After.mono _ _ _ _ _
   | exact clock_Agree.mono _ _
   | exact clock_At.mono _ _ _ _
   | exact clock_Before.mono _ _ _ _ _
   | exact clock_Spread.mono _ _ _
   | exact clock_Valid.mono _ _ _
   | exact dialtonelaw05_sane.mono _
   | exact dialtoneref05_After.mono _ _ _ _ _
   | exact dialtoneref05_Agree.mono _ _
   | exact dialtoneref05_At.mono _ _ _ _
   | exact dialtoneref05_Before.mono _ _ _ _ _
   | exact dialtoneref05_Made.mono _ _ _ _ _
   | exact dialtoneref05_Reads.mono _ _ _ _
   | exact dialtoneref05_Spread.mono _ _ _
   | exact dialtoneref05_Valid.mono _ _ _
   | exact LeO.none _
   | refine LeO.ite ?_ ?_
   | refine LeO.bind ?_ (fun _ => ?_)
theorem dialtonelaw05_ClockMatchesReference.mono : ∀ a0 a1 a2 a3 a4 a5 a6 a7 a8 k, LeO (dialtonelaw05_ClockMatchesReference.f k a0 a1 a2 a3 a4 a5 a6 a7 a8) (dialtonelaw05_ClockMatchesReference.f (k + 1) a0 a1 a2 a3 a4 a5 a6 a7 a8) := by
 intro a0 a1 a2 a3 a4 a5 a6 a7 a8 k
 obtain ⟨ih0, ih1, ih2, ih3⟩ := dialtonelaw05_ClockMatchesReference.mono_l k
 unfold dialtonelaw05_ClockMatchesReference.f
 repeat' first
   | (with_reducible exact ih0 _ _ _ _ _ _ _ _ _ _)
   | (with_reducible exact ih1 _ _ _ _ _)
   | (with_reducible exact ih2 _ _ _ _ _ _ _ _ _ _)
   | (with_reducible exact ih3 _ _ _ _ _ _ _ _ _ _ _)
   | (with_reducible exact clock_After.mono _ _ _ _ _)
   | (with_reducible exact clock_Agree.mono _ _)
   | (with_reducible exact clock_At.mono _ _ _ _)
   | (with_reducible exact clock_Before.mono _ _ _ _ _)
   | (with_reducible exact clock_Spread.mono _ _ _)
   | (with_reducible exact clock_Valid.mono _ _ _)
   | (with_reducible exact dialtonelaw05_sane.mono _)
   | (with_reducible exact dialtoneref05_After.mono _ _ _ _ _)
   | (with_reducible exact dialtoneref05_Agree.mono _ _)
   | (with_reducible exact dialtoneref05_At.mono _ _ _ _)
   | (with_reducible exact dialtoneref05_Before.mono _ _ _ _ _)
   | (with_reducible exact dialtoneref05_Made.mono _ _ _ _ _)
   | (with_reducible exact dialtoneref05_Reads.mono _ _ _ _)
   | (with_reducible exact dialtoneref05_Spread.mono _ _ _)
   | (with_reducible exact dialtoneref05_Valid.mono _ _ _)
   | (with_reducible exact LeO.refl _)
   | (with_reducible exact LeO.none _)
   | (with_reducible refine LeO.ite ?_ ?_)
   | (with_reducible refine LeO.bind ?_ (fun _ => ?_))
   | exact ih0 _ _ _ _ _ _ _ _ _ _
   | exact ih1 _ _ _ _ _
   | exact ih2 _ _ _ _ _ _ _ _ _ _
   | exact ih3 _ _ _ _ _ _ _ _ _ _ _
   | exact clock_After.mono _ _ _ _ _
   | exact clock_Agree.mono _ _
   | exact clock_At.mono _ _ _ _
   | exact clock_Before.mono _ _ _ _ _
   | exact clock_Spread.mono _ _ _
   | exact clock_Valid.mono _ _ _
   | exact dialtonelaw05_sane.mono _
   | exact dialtoneref05_After.mono _ _ _ _ _
   | exact dialtoneref05_Agree.mono _ _
   | exact dialtoneref05_At.mono _ _ _ _
   | exact dialtoneref05_Before.mono _ _ _ _ _
   | exact dialtoneref05_Made.mono _ _ _ _ _
   | exact dialtoneref05_Reads.mono _ _ _ _
   | exact dialtoneref05_Spread.mono _ _ _
   | exact dialtoneref05_Valid.mono _ _ _
   | exact LeO.none _
   | refine LeO.ite ?_ ?_
   | refine LeO.bind ?_ (fun _ => ?_)
def dialtonelaw05_ClockMatchesReference.T22 : Bool × List (List Nat × List Nat) := (true, [([], []), ([], []), ([], []), ([1, 2], [1, 2]), ([3], [3]), ([0, 4], [0, 4]), ([5], [5]), ([6], [6]), ([6], [6]), ([6], [6]), ([7, 5, 0, 1, 2, 3, 4, 5, 6, 7], [7]), ([8, 10, 0, 1, 2, 3, 4, 5, 6, 7, 8, 10], [8]), ([9, 11, 0, 1, 2, 3, 4, 5, 6, 7, 8, 9, 10, 11], [9])])
def dialtonelaw05_ClockMatchesReference.B22 : List Nat := [0, 0, 0, 6, 14, 31, 63, 127, 127, 127, 255, 1535, 4095]
theorem dialtonelaw05_ClockMatchesReference.tab22 : rtab .any (opsOf Try.f3 22) = dialtonelaw05_ClockMatchesReference.T22 := by kernel_rfl
theorem dialtonelaw05_ClockMatchesReference.bits22 : waitsOk dialtonelaw05_ClockMatchesReference.T22.2 dialtonelaw05_ClockMatchesReference.B22 = true := by kernel_rfl
def dialtonelaw05_ClockMatchesReference.T23 : Bool × List (List Nat × List Nat) := (true, [([], []), ([], []), ([], []), ([1, 2], [1, 2]), ([3], [3]), ([0, 4], [0, 4]), ([5], [5]), ([6], [6]), ([6], [6]), ([6], [6]), ([7, 5, 0, 1, 2, 3, 4, 5, 6, 7], [7]), ([8, 10, 0, 1, 2, 3, 4, 5, 6, 7, 8, 10], [8]), ([9, 11, 0, 1, 2, 3, 4, 5, 6, 7, 8, 9, 10, 11], [9])])
def dialtonelaw05_ClockMatchesReference.B23 : List Nat := [0, 0, 0, 6, 14, 31, 63, 127, 127, 127, 255, 1535, 4095]
theorem dialtonelaw05_ClockMatchesReference.tab23 : rtab .any (opsOf Try.f3 23) = dialtonelaw05_ClockMatchesReference.T23 := by kernel_rfl
theorem dialtonelaw05_ClockMatchesReference.bits23 : waitsOk dialtonelaw05_ClockMatchesReference.T23.2 dialtonelaw05_ClockMatchesReference.B23 = true := by kernel_rfl
def dialtonelaw05_ClockMatchesReference.T24 : Bool × List (List Nat × List Nat) := (true, [([], []), ([], []), ([], []), ([1, 2], [1, 2]), ([3], [3]), ([0, 4], [0, 4]), ([5], [5]), ([6], [6]), ([6], [6]), ([6], [6]), ([7, 5, 0, 1, 2, 3, 4, 5, 6, 7], [7]), ([8, 10, 0, 1, 2, 3, 4, 5, 6, 7, 8, 10], [8]), ([9, 11, 0, 1, 2, 3, 4, 5, 6, 7, 8, 9, 10, 11], [9])])
def dialtonelaw05_ClockMatchesReference.B24 : List Nat := [0, 0, 0, 6, 14, 31, 63, 127, 127, 127, 255, 1535, 4095]
theorem dialtonelaw05_ClockMatchesReference.tab24 : rtab .any (opsOf Try.f3 24) = dialtonelaw05_ClockMatchesReference.T24 := by kernel_rfl
theorem dialtonelaw05_ClockMatchesReference.bits24 : waitsOk dialtonelaw05_ClockMatchesReference.T24.2 dialtonelaw05_ClockMatchesReference.B24 = true := by kernel_rfl
def dialtonelaw05_ClockMatchesReference.T25 : Bool × List (List Nat × List Nat) := (true, [([], []), ([], []), ([], []), ([1, 2], [1, 2]), ([3], [3]), ([0, 4], [0, 4]), ([5], [5]), ([6], [6]), ([6], [6]), ([6], [6]), ([7, 5, 0, 1, 2, 3, 4, 5, 6, 7], [7]), ([8, 10, 0, 1, 2, 3, 4, 5, 6, 7, 8, 10], [8]), ([9, 11, 0, 1, 2, 3, 4, 5, 6, 7, 8, 9, 10, 11], [9])])
def dialtonelaw05_ClockMatchesReference.B25 : List Nat := [0, 0, 0, 6, 14, 31, 63, 127, 127, 127, 255, 1535, 4095]
theorem dialtonelaw05_ClockMatchesReference.tab25 : rtab .any (opsOf Try.f3 25) = dialtonelaw05_ClockMatchesReference.T25 := by kernel_rfl
theorem dialtonelaw05_ClockMatchesReference.bits25 : waitsOk dialtonelaw05_ClockMatchesReference.T25.2 dialtonelaw05_ClockMatchesReference.B25 = true := by kernel_rfl
def dialtonelaw05_ClockMatchesReference.T28 : Bool × List (List Nat × List Nat) := (true, [([], []), ([], []), ([], []), ([1, 2], [1, 2]), ([3], [3]), ([], []), ([], []), ([5, 6], [5, 6]), ([7], [7]), ([0, 4, 8], [0, 4, 8]), ([], []), ([], []), ([], []), ([11, 12], [11, 12]), ([13], [13]), ([], []), ([], []), ([15, 16], [15, 16]), ([17], [17]), ([10, 14, 18, 9], [10, 14, 18]), ([9, 19], [9, 19]), ([20, 19], [20]), ([21], [21]), ([21], [21]), ([21], [21]), ([23, 24, 21], [21, 23, 24]), ([25, 21], [21, 25]), ([21], [21]), ([21], [21]), ([27, 28, 21], [21, 27, 28]), ([29, 21], [21, 29]), ([22, 26, 30, 21, 21], [21, 22, 26, 30]), ([21], [21]), ([21], [21]), ([21], [21]), ([33, 34, 21], [21, 33, 34]), ([35, 21], [21, 35]), ([21], [21]), ([21], [21]), ([37, 38, 21], [21, 37, 38]), ([39, 21], [21, 39]), ([32, 36, 40, 31, 21], [21, 32, 36, 40]), ([31, 41, 21], [21, 31, 41]), ([21, 42], [21, 42])])
def dialtonelaw05_ClockMatchesReference.B28 : List Nat := [0, 0, 0, 6, 14, 0, 0, 96, 224, 511, 0, 0, 0, 6144, 14336, 0, 0, 98304, 229376, 524287, 1048575, 2097151, 4194303, 4194303, 4194303, 29360127, 62914559, 4194303, 4194303, 406847487, 943718399, 2147483647, 4194303, 4194303, 4194303, 25773998079, 60133736447, 4194303, 4194303, 412321054719, 962076868607, 2199023255551, 4398046511103, 8796093022207]
theorem dialtonelaw05_ClockMatchesReference.tab28 : rtab .any (opsOf Try.f3 28) = dialtonelaw05_ClockMatchesReference.T28 := by kernel_rfl
theorem dialtonelaw05_ClockMatchesReference.bits28 : waitsOk dialtonelaw05_ClockMatchesReference.T28.2 dialtonelaw05_ClockMatchesReference.B28 = true := by kernel_rfl
set_option maxHeartbeats 8000000 in
set_option maxRecDepth 100000 in
theorem dialtonelaw05_ClockMatchesReference.calls (k : Nat) (a0_0 : Int) (A0_1 : Option Addr) (c0_1 : Nat) (l0_1 : List (S50)) (a1 : Int) (a2 : Int) (A3 : Option Addr) (c3 : Nat) (l3 : List Int) (A4 : Option Addr) (c4 : Nat) (l4 : List (S60)) (a5 : Int) (a6 : Int) (A7 : Option Addr) (c7 : Nat) (l7 : List (S32)) (r : Bool) (w : World) (hr0_1 : Kd.C k50 w A0_1 l0_1.length l0_1) (hc0_1 : l0_1.length ≤ c0_1) (hr3 : Kd.C (Kd.int .i64) w A3 l3.length l3) (hc3 : l3.length ≤ c3) (hr4 : Kd.C k60 w A4 l4.length l4) (hc4 : l4.length ≤ c4) (hr7 : Kd.C k32 w A7 l7.length l7) (hc7 : l7.length ≤ c7) (h : dialtonelaw05_ClockMatchesReference.f k a0_0 l0_1 a1 a2 l3 l4 a5 a6 l7 = some r) :
  Calls Try.prog 3 #[.agg #[.int .i64 a0_0, .slice A0_1 l0_1.length c0_1], .int .i64 a1, .int .i64 a2, .slice A3 l3.length c3, .slice A4 l4.length c4, .int .i64 a5, .int .i64 a6, .slice A7 l7.length c7] w fun e w' => e = .returned (.bool r) ∧ Below w.heap.size w w' := by
 have hu24 := Try.underlying24
 have hu32 := Try.underlying32
 have HR0_1 := Aside0.mk hr0_1
 have HC0_1 := Aside0.mk hc0_1
 clear hr0_1 hc0_1
 have HR3 := Aside0.mk hr3
 have HC3 := Aside0.mk hc3
 clear hr3 hc3
 have HR4 := Aside0.mk hr4
 have HC4 := Aside0.mk hc4
 clear hr4 hc4
 have HR7 := Aside0.mk hr7
 have HC7 := Aside0.mk hc7
 clear hr7 hc7
 have HB := Aside0.mk (Below.refl w.heap.size w)
 have H : ((dialtonelaw05_sane.f k).bind fun t229 => (if t229 = true then ((clock_Spread.f k a1 a5).bind fun bt230 => ((dialtoneref05_Spread.f k a1 a5).bind fun bt232 => (if 0 ≤ (mn (l7.length : Int) 20) then (if (mn (l7.length : Int) 20) ≤ (l7.length : Int) then ((clock_Agree.f k (l7.take ((mn (l7.length : Int) 20) : Int).toNat)).bind fun bt238 => ((dialtoneref05_Agree.f k (l7.take ((mn (l7.length : Int) 20) : Int).toNat)).bind fun bt246 => (if bt230.1 = bt232.1 then (if bt230.2 = bt232.2 then (if (!(bt238.1 == bt246.1) || (!(bt238.2.1 == bt246.2.1))) = true then (dialtonelaw05_ClockMatchesReference.j0 k a1 a2 l3 l4 a5 a6 t229 true a0_0 l0_1) else (dialtonelaw05_ClockMatchesReference.j0 k a1 a2 l3 l4 a5 a6 t229 (bt238.2.2 != bt246.2.2) a0_0 l0_1)) else (dialtonelaw05_ClockMatchesReference.j0 k a1 a2 l3 l4 a5 a6 t229 true a0_0 l0_1)) else (dialtonelaw05_ClockMatchesReference.j0 k a1 a2 l3 l4 a5 a6 t229 true a0_0 l0_1)))) else (none)) else (none)))) else (none))) = some r := h
 clear h
 replace H := Option.bind_eq_some_iff.mp H
 obtain ⟨t229, A90, H⟩ := H
 replace H : (if t229 = true then ((clock_Spread.f k a1 a5).bind fun bt230 => ((dialtoneref05_Spread.f k a1 a5).bind fun bt232 => (if 0 ≤ (mn (l7.length : Int) 20) then (if (mn (l7.length : Int) 20) ≤ (l7.length : Int) then ((clock_Agree.f k (l7.take ((mn (l7.length : Int) 20) : Int).toNat)).bind fun bt238 => ((dialtoneref05_Agree.f k (l7.take ((mn (l7.length : Int) 20) : Int).toNat)).bind fun bt246 => (if bt230.1 = bt232.1 then (if bt230.2 = bt232.2 then (if (!(bt238.1 == bt246.1) || (!(bt238.2.1 == bt246.2.1))) = true then (dialtonelaw05_ClockMatchesReference.j0 k a1 a2 l3 l4 a5 a6 t229 true a0_0 l0_1) else (dialtonelaw05_ClockMatchesReference.j0 k a1 a2 l3 l4 a5 a6 t229 (bt238.2.2 != bt246.2.2) a0_0 l0_1)) else (dialtonelaw05_ClockMatchesReference.j0 k a1 a2 l3 l4 a5 a6 t229 true a0_0 l0_1)) else (dialtonelaw05_ClockMatchesReference.j0 k a1 a2 l3 l4 a5 a6 t229 true a0_0 l0_1)))) else (none)) else (none)))) else (none)) = some r := H
 have A9 := Aside0.mk A90
 clear A90
 by_cases c10 : t229 = true
 ·
  subst c10
  have H1 : ((clock_Spread.f k a1 a5).bind fun bt230 => ((dialtoneref05_Spread.f k a1 a5).bind fun bt232 => (if 0 ≤ (mn (l7.length : Int) 20) then (if (mn (l7.length : Int) 20) ≤ (l7.length : Int) then ((clock_Agree.f k (l7.take ((mn (l7.length : Int) 20) : Int).toNat)).bind fun bt238 => ((dialtoneref05_Agree.f k (l7.take ((mn (l7.length : Int) 20) : Int).toNat)).bind fun bt246 => (if bt230.1 = bt232.1 then (if bt230.2 = bt232.2 then (if (!(bt238.1 == bt246.1) || (!(bt238.2.1 == bt246.2.1))) = true then (dialtonelaw05_ClockMatchesReference.j0 k a1 a2 l3 l4 a5 a6 true true a0_0 l0_1) else (dialtonelaw05_ClockMatchesReference.j0 k a1 a2 l3 l4 a5 a6 true (bt238.2.2 != bt246.2.2) a0_0 l0_1)) else (dialtonelaw05_ClockMatchesReference.j0 k a1 a2 l3 l4 a5 a6 true true a0_0 l0_1)) else (dialtonelaw05_ClockMatchesReference.j0 k a1 a2 l3 l4 a5 a6 true true a0_0 l0_1)))) else (none)) else (none)))) = some r := by rw [if_pos rfl] at H; exact H
  clear H
  have H := H1
  clear H1
  replace H := Option.bind_eq_some_iff.mp H
  obtain ⟨⟨t230, t231⟩, A110, H⟩ := H
  replace H : ((dialtoneref05_Spread.f k a1 a5).bind fun bt232 => (if 0 ≤ (mn (l7.length : Int) 20) then (if (mn (l7.length : Int) 20) ≤ (l7.length : Int) then ((clock_Agree.f k (l7.take ((mn (l7.length : Int) 20) : Int).toNat)).bind fun bt238 => ((dialtoneref05_Agree.f k (l7.take ((mn (l7.length : Int) 20) : Int).toNat)).bind fun bt246 => (if t230 = bt232.1 then (if t231 = bt232.2 then (if (!(bt238.1 == bt246.1) || (!(bt238.2.1 == bt246.2.1))) = true then (dialtonelaw05_ClockMatchesReference.j0 k a1 a2 l3 l4 a5 a6 true true a0_0 l0_1) else (dialtonelaw05_ClockMatchesReference.j0 k a1 a2 l3 l4 a5 a6 true (bt238.2.2 != bt246.2.2) a0_0 l0_1)) else (dialtonelaw05_ClockMatchesReference.j0 k a1 a2 l3 l4 a5 a6 true true a0_0 l0_1)) else (dialtonelaw05_ClockMatchesReference.j0 k a1 a2 l3 l4 a5 a6 true true a0_0 l0_1)))) else (none)) else (none))) = some r := H
  have A11 := Aside0.mk A110
  clear A110
  replace H := Option.bind_eq_some_iff.mp H
  obtain ⟨⟨t232, t233⟩, A120, H⟩ := H
  replace H : (if 0 ≤ (mn (l7.length : Int) 20) then (if (mn (l7.length : Int) 20) ≤ (l7.length : Int) then ((clock_Agree.f k (l7.take ((mn (l7.length : Int) 20) : Int).toNat)).bind fun bt238 => ((dialtoneref05_Agree.f k (l7.take ((mn (l7.length : Int) 20) : Int).toNat)).bind fun bt246 => (if t230 = t232 then (if t231 = t233 then (if (!(bt238.1 == bt246.1) || (!(bt238.2.1 == bt246.2.1))) = true then (dialtonelaw05_ClockMatchesReference.j0 k a1 a2 l3 l4 a5 a6 true true a0_0 l0_1) else (dialtonelaw05_ClockMatchesReference.j0 k a1 a2 l3 l4 a5 a6 true (bt238.2.2 != bt246.2.2) a0_0 l0_1)) else (dialtonelaw05_ClockMatchesReference.j0 k a1 a2 l3 l4 a5 a6 true true a0_0 l0_1)) else (dialtonelaw05_ClockMatchesReference.j0 k a1 a2 l3 l4 a5 a6 true true a0_0 l0_1)))) else (none)) else (none)) = some r := H
  have A12 := Aside0.mk A120
  clear A120
  obtain ⟨ji13, hji13⟩ : ∃ j_ : Int, (mn (l7.length : Int) 20) = j_ := ⟨_, rfl⟩
  replace H : (if 0 ≤ (ji13) then (if (ji13) ≤ (l7.length : Int) then ((clock_Agree.f k (l7.take ((ji13) : Int).toNat)).bind fun bt238 => ((dialtoneref05_Agree.f k (l7.take ((ji13) : Int).toNat)).bind fun bt246 => (if t230 = t232 then (if t231 = t233 then (if (!(bt238.1 == bt246.1) || (!(bt238.2.1 == bt246.2.1))) = true then (dialtonelaw05_ClockMatchesReference.j0 k a1 a2 l3 l4 a5 a6 true true a0_0 l0_1) else (dialtonelaw05_ClockMatchesReference.j0 k a1 a2 l3 l4 a5 a6 true (bt238.2.2 != bt246.2.2) a0_0 l0_1)) else (dialtonelaw05_ClockMatchesReference.j0 k a1 a2 l3 l4 a5 a6 true true a0_0 l0_1)) else (dialtonelaw05_ClockMatchesReference.j0 k a1 a2 l3 l4 a5 a6 true true a0_0 l0_1)))) else (none)) else (none)) = some r := by first | (rw [hji13] at H; exact H) | (simp only [hji13] at H ⊢; exact H)
  (try rw [hji13] at A9)
  (try rw [hji13] at A11)
  (try rw [hji13] at A12)
  (try (have hji13h : ji13 ≤ 20 := by (rw [← hji13]; unfold mn; (repeat' split) <;> omega)))
  (try (have hji13g : ji13 ≤ 64 := by omega))
  (try (have hji13l : 0 ≤ ji13 := by (rw [← hji13]; unfold mn; (repeat' split) <;> omega)))
  (try (have hji13m : 0 ≤ ji13 := by omega))
  have hji13_ : (if 20 < (l7.length : Int) then 20 else (l7.length : Int)) = ji13 := hji13
  by_cases c14 : 0 ≤ (ji13)
  ·
   rw [if_pos c14] at H
   have c14b0 := eq_true c14
   have c14b1 : decide (0 ≤ (ji13)) = true := decide_eq_true c14
   clear c14
   by_cases c15 : (ji13) ≤ (l7.length : Int)
   ·
    rw [if_pos c15] at H
    have c15b0 := eq_true c15
    have c15b1 : decide ((ji13) ≤ (l7.length : Int)) = true := decide_eq_true c15
    clear c15
    obtain ⟨y234, hy234⟩ : ∃ y_ : List (S32), y_ = (l7.take ((ji13) : Int).toNat) := ⟨_, rfl⟩
    replace H : ((clock_Agree.f k y234).bind fun bt238 => ((dialtoneref05_Agree.f k (l7.take ((ji13) : Int).toNat)).bind fun bt246 => (if t230 = t232 then (if t231 = t233 then (if (!(bt238.1 == bt246.1) || (!(bt238.2.1 == bt246.2.1))) = true then (dialtonelaw05_ClockMatchesReference.j0 k a1 a2 l3 l4 a5 a6 true true a0_0 l0_1) else (dialtonelaw05_ClockMatchesReference.j0 k a1 a2 l3 l4 a5 a6 true (bt238.2.2 != bt246.2.2) a0_0 l0_1)) else (dialtonelaw05_ClockMatchesReference.j0 k a1 a2 l3 l4 a5 a6 true true a0_0 l0_1)) else (dialtonelaw05_ClockMatchesReference.j0 k a1 a2 l3 l4 a5 a6 true true a0_0 l0_1)))) = some r := by first | (rw [hy234]; with_reducible exact H) | (have H2_ := (Option.bind_some _ _).symm.trans H; rw [hy234]; with_reducible exact H2_) | (have H2_ := (Option.bind_some _ _).symm.trans H; with_reducible exact H2_) | with_reducible exact H | (rw [hy234]; exact H) | exact H
    have Ny234 := Aside0.mk hy234
    clear hy234
    replace H := Option.bind_eq_some_iff.mp H
    obtain ⟨⟨t238, t239, t240⟩, A160, H⟩ := H
    replace H : ((dialtoneref05_Agree.f k (l7.take ((ji13) : Int).toNat)).bind fun bt246 => (if t230 = t232 then (if t231 = t233 then (if (!(t238 == bt246.1) || (!(t239 == bt246.2.1))) = true then (dialtonelaw05_ClockMatchesReference.j0 k a1 a2 l3 l4 a5 a6 true true a0_0 l0_1) else (dialtonelaw05_ClockMatchesReference.j0 k a1 a2 l3 l4 a5 a6 true (t240 != bt246.2.2) a0_0 l0_1)) else (dialtonelaw05_ClockMatchesReference.j0 k a1 a2 l3 l4 a5 a6 true true a0_0 l0_1)) else (dialtonelaw05_ClockMatchesReference.j0 k a1 a2 l3 l4 a5 a6 true true a0_0 l0_1))) = some r := H
    have A16 := Aside0.mk A160
    clear A160
    have c18b0 := eq_true (of_decide_eq_true (by first | (with_reducible assumption) | assumption) : 0 ≤ (ji13))
    have c19b0 := eq_true (of_decide_eq_true (by first | (with_reducible assumption) | assumption) : (ji13) ≤ (l7.length : Int))
    obtain ⟨y242, hy242⟩ : ∃ y_ : List (S32), y_ = (l7.take ((ji13) : Int).toNat) := ⟨_, rfl⟩
    replace H : ((dialtoneref05_Agree.f k y242).bind fun bt246 => (if t230 = t232 then (if t231 = t233 then (if (!(t238 == bt246.1) || (!(t239 == bt246.2.1))) = true then (dialtonelaw05_ClockMatchesReference.j0 k a1 a2 l3 l4 a5 a6 true true a0_0 l0_1) else (dialtonelaw05_ClockMatchesReference.j0 k a1 a2 l3 l4 a5 a6 true (t240 != bt246.2.2) a0_0 l0_1)) else (dialtonelaw05_ClockMatchesReference.j0 k a1 a2 l3 l4 a5 a6 true true a0_0 l0_1)) else (dialtonelaw05_ClockMatchesReference.j0 k a1 a2 l3 l4 a5 a6 true true a0_0 l0_1))) = some r := by first | (rw [hy242]; with_reducible exact H) | (have H2_ := (Option.bind_some _ _).symm.trans H; rw [hy242]; with_reducible exact H2_) | (have H2_ := (Option.bind_some _ _).symm.trans H; with_reducible exact H2_) | with_reducible exact H | (rw [hy242]; exact H) | exact H
    have Ny242 := Aside0.mk hy242
    clear hy242
    replace H := Option.bind_eq_some_iff.mp H
    obtain ⟨⟨t246, t247, t248⟩, A200, H⟩ := H
    replace H : (if t230 = t232 then (if t231 = t233 then (if (!(t238 == t246) || (!(t239 == t247))) = true then (dialtonelaw05_ClockMatchesReference.j0 k a1 a2 l3 l4 a5 a6 true true a0_0 l0_1) else (dialtonelaw05_ClockMatchesReference.j0 k a1 a2 l3 l4 a5 a6 true (t240 != t248) a0_0 l0_1)) else (dialtonelaw05_ClockMatchesReference.j0 k a1 a2 l3 l4 a5 a6 true true a0_0 l0_1)) else (dialtonelaw05_ClockMatchesReference.j0 k a1 a2 l3 l4 a5 a6 true true a0_0 l0_1)) = some r := H
    have A20 := Aside0.mk A200
    clear A200
    have HC21 := Aside0.mk H
    clear H
    go_enter Try.func3, Try.ntmps3
    go_upto_region 8 with (first | ((with_reducible refine gate_dst (N := 8) rfl ?_); refine box_event ?hg (N := 8) ?hd (cs := #[.int .i64 a0_0, .slice A0_1 l0_1.length c0_1]) (t := 24) ?hr ?_; (case hd => rfl); (case hg => rfl); (case hr => first | (go_simp; done) | (go_simp; rfl)); intro gb228 hg w22 hbox hb; have n0_ := Aside0.mk (below_step (by repeat (first | (with_reducible first | exact HB.out | apply below_alloc | apply pw_below_drewN | apply below_drew1) | exact HB.out)) hb); have n1_ := Aside0.mk (hbox); have n2_ := Aside0.mk ((by rw [hg]; exact (below_size (by repeat (first | (with_reducible first | exact HB.out | apply below_alloc | apply pw_below_drewN | apply below_drew1) | exact HB.out))) : w.heap.size ≤ gb228)); have n3_ := Aside0.mk ((by rw [hg]; exact (below_size (by repeat (first | (with_reducible first | exact HB.out | apply below_alloc | apply pw_below_drewN | apply below_drew1) | exact HB.out))) : w.heap.size ≤ gb228)); clear HB; have HB := n0_; have BK228 := n1_; have GW228 := n2_; have GE228 := n3_; clear n0_ n1_ n2_ n3_; clear hb hbox hg) | ((with_reducible refine gate_callee (f := 10) rfl ?_); refine goesL_ (some 44) rfl rfl Try.func10 (by kernel_rfl) rfl #[] rfl (by (try simp only [List.map_toArray, List.map_cons, List.map_nil]); first | done | rfl | (simp only [List.length_drop, List.length_take]; rfl)) ?_; (with_reducible refine (dialtonelaw05_sane.calls k  true _ A9.out).mono ?_); rintro e w23 ⟨rfl, hb⟩; refine ⟨_, rfl, ?_⟩; have n0_ := Aside0.mk (blk_below (g := gb228) (o := .cells #[.int .i64 a0_0, .slice A0_1 l0_1.length c0_1] 24 (0, 0)) (by (with_reducible repeat (first | refine blk_drewN ?_ _ | refine blk_drew ?_ | refine blk_alloc ?_ _)); exact BK228.out) hb); have n1_ := Aside0.mk (below_step (by repeat (first | (with_reducible first | exact HB.out | apply below_alloc | apply pw_below_drewN | apply below_drew1 | refine below_set ?_ GE228.out) | exact HB.out)) hb); clear BK228; clear HB; have BK228 := n0_; have HB := n1_; clear n0_ n1_; (try clear hb); (try clear hb2); (try clear hk); (try clear hi)) | ((with_reducible refine gate_callee (f := 11) rfl ?_); refine goesL_ (some 50) rfl rfl Try.func11 (by kernel_rfl) rfl #[.int .i64 a1, .int .i64 a5] rfl (by (try simp only [List.map_toArray, List.map_cons, List.map_nil]); first | done | rfl | (simp only [List.length_drop, List.length_take]; rfl)) ?_; (with_reducible refine (clock_Spread.calls k a1 a5 t230 t231 _ A11.out).mono ?_); rintro e w' ⟨rfl, ⟨nd, rfl⟩⟩; refine ⟨_, rfl, ?_⟩; (try (rw [drewN_self w23]; generalize hq_ : World.drewN w23 _ = w23; have n0_ : Aside0 (w23.heap[gb228]? = some (.cells #[.int .i64 a0_0, .slice A0_1 l0_1.length c0_1] 24 (0, 0))) := ⟨by rw [← hq_]; exact (by (with_reducible repeat (first | refine blk_drewN ?_ _ | refine blk_drew ?_ | refine blk_alloc ?_ _)); exact BK228.out)⟩; have n1_ : Aside0 (Below w.heap.size w w23) := ⟨by rw [← hq_]; exact (by repeat (first | (with_reducible first | exact HB.out | apply below_alloc | apply pw_below_drewN | apply below_drew1 | refine below_set ?_ GE228.out) | exact HB.out))⟩; clear BK228 HB hq_; have BK228 := n0_; have HB := n1_; clear n0_ n1_))) | ((with_reducible refine gate_callee (f := 12) rfl ?_); refine goesL_ (some 56) rfl rfl Try.func12 (by kernel_rfl) rfl #[.int .i64 a1, .int .i64 a5] rfl (by (try simp only [List.map_toArray, List.map_cons, List.map_nil]); first | done | rfl | (simp only [List.length_drop, List.length_take]; rfl)) ?_; (with_reducible refine (dialtoneref05_Spread.calls k a1 a5 t232 t233 _ A12.out).mono ?_); rintro e w24 ⟨rfl, hb⟩; refine ⟨_, rfl, ?_⟩; have n0_ := Aside0.mk (blk_below (g := gb228) (o := .cells #[.int .i64 a0_0, .slice A0_1 l0_1.length c0_1] 24 (0, 0)) (by (with_reducible repeat (first | refine blk_drewN ?_ _ | refine blk_drew ?_ | refine blk_alloc ?_ _)); exact BK228.out) hb); have n1_ := Aside0.mk (below_step (by repeat (first | (with_reducible first | exact HB.out | apply below_alloc | apply pw_below_drewN | apply below_drew1 | refine below_set ?_ GE228.out) | exact HB.out)) hb); clear BK228; clear HB; have BK228 := n0_; have HB := n1_; clear n0_ n1_; (try clear hb); (try clear hb2); (try clear hk); (try clear hi); have q25 : ((ji13) : Int) ≤ ((l7.length : Int) : Int) := of_decide_eq_true (by first | (with_reducible assumption) | assumption); obtain ⟨i025, hi025, _, hsz25, _⟩ := info_parts info32; have hroom25 : l7.length ≤ c7 := HC7.out; have hC25 : Kd.C k32 _ A7 l7.length l7 := HR7.out; have hcut25 := cut_to (P := Try.prog) 27 32 .i64 Try.underlying27 hi025 A7 l7.length c7 (ji13) (of_decide_eq_true (by first | (with_reducible assumption) | assumption)) q25 hroom25; have hr25 := Kd.C_take (m := ((ji13) : Int).toNat) hC25 (by omega); have hy25 : y234.length = ((ji13) : Int).toNat := (by rw [Ny234.out, List.length_take]; omega); rw [← Ny234.out] at hr25; rw [← hy25] at hcut25; have HR237 := Aside0.mk hr25; have HC237 := Aside0.mk (show y234.length ≤ c7 from by omega); clear hr25 hC25 hroom25 hi025 hsz25; have KY25 := Aside0.mk hy25; clear hy25; replace q25 := eq_true q25) | ((with_reducible refine gate_callee (f := 13) rfl ?_); refine goesL_ (some 65) rfl rfl Try.func13 (by kernel_rfl) rfl #[.slice A7 y234.length c7] rfl (by (try simp only [List.map_toArray, List.map_cons, List.map_nil]); first | done | rfl | (simp only [List.length_drop, List.length_take]; rfl)) ?_; (with_reducible refine (clock_Agree.calls k _ _ y234 t238 t239 t240 _ ?side1 ?side2 A16.out).mono ?_); (case side1 => repeat (first | exact (Kd.C_below HR237.out HB.out) | (with_reducible refine Kd.C_alloc ?_ _) | (with_reducible refine Kd.C_drewN ?_ _) | (with_reducible refine Kd.C_drew ?_))); (case side2 => exact HC237.out); rintro e w26 ⟨rfl, hb⟩; refine ⟨_, rfl, ?_⟩; have n0_ := Aside0.mk (blk_below (g := gb228) (o := .cells #[.int .i64 a0_0, .slice A0_1 l0_1.length c0_1] 24 (0, 0)) (by (with_reducible repeat (first | refine blk_drewN ?_ _ | refine blk_drew ?_ | refine blk_alloc ?_ _)); exact BK228.out) hb); have n1_ := Aside0.mk (below_step (by repeat (first | (with_reducible first | exact HB.out | apply below_alloc | apply pw_below_drewN | apply below_drew1 | refine below_set ?_ GE228.out) | exact HB.out)) hb); clear BK228; clear HB; have BK228 := n0_; have HB := n1_; clear n0_ n1_; (try clear hb); (try clear hb2); (try clear hk); (try clear hi)) | ((with_reducible refine gate_dst (N := 22) rfl ?_); refine box_event ?hg (N := 22) ?hd (cs := #[.int .i64 0, .int .i64 0]) (t := 32) ?hr ?_; (case hd => rfl); (case hg => rfl); (case hr => first | (go_simp; done) | (go_simp; rfl)); intro gb241 hg w27 hbox hb; have n0_ := Aside0.mk (blk_below (g := gb228) (o := .cells #[.int .i64 a0_0, .slice A0_1 l0_1.length c0_1] 24 (0, 0)) (by (with_reducible repeat (first | refine blk_drewN ?_ _ | refine blk_drew ?_ | refine blk_alloc ?_ _)); exact BK228.out) hb); have n1_ := Aside0.mk (below_step (by repeat (first | (with_reducible first | exact HB.out | apply below_alloc | apply pw_below_drewN | apply below_drew1 | refine below_set ?_ GE228.out) | exact HB.out)) hb); have n2_ := Aside0.mk (hbox); have n3_ := Aside0.mk ((by rw [hg]; exact (below_size (by repeat (first | (with_reducible first | exact HB.out | apply below_alloc | apply pw_below_drewN | apply below_drew1 | refine below_set ?_ GE228.out) | exact HB.out))) : w.heap.size ≤ gb241)); have n4_ := Aside0.mk ((by rw [hg]; exact (below_size (by repeat (first | (with_reducible first | exact HB.out | apply below_alloc | apply pw_below_drewN | apply below_drew1 | refine below_set ?_ GE228.out) | exact HB.out))) : w.heap.size ≤ gb241)); have n5_ := Aside0.mk ((by rw [hg]; exact Nat.ne_of_lt (blk_lt (g := gb228) (o := .cells #[.int .i64 a0_0, .slice A0_1 l0_1.length c0_1] 24 (0, 0)) (by (with_reducible repeat (first | refine blk_drewN ?_ _ | refine blk_drew ?_ | refine blk_alloc ?_ _)); exact BK228.out)) : gb228 ≠ gb241)); have n6_ := Aside0.mk ((by rw [hg]; exact Nat.ne_of_gt (blk_lt (g := gb228) (o := .cells #[.int .i64 a0_0, .slice A0_1 l0_1.length c0_1] 24 (0, 0)) (by (with_reducible repeat (first | refine blk_drewN ?_ _ | refine blk_drew ?_ | refine blk_alloc ?_ _)); exact BK228.out)) : gb241 ≠ gb228)); clear BK228; clear HB; have BK228 := n0_; have HB := n1_; have BK241 := n2_; have GW241 := n3_; have GE241 := n4_; have NB228_241 := n5_; have NB241_228 := n6_; clear n0_ n1_ n2_ n3_ n4_ n5_ n6_; clear hb hbox hg; have hnb28 := NB241_228.out; have hnc28 := NB228_241.out; have hcz29_0 : w27.cell? ⟨gb241, 0, none⟩ = some (.int .i64 0) := (blk_cell BK241.out 0).trans rfl; have hcz29_1 : w27.cell? ⟨gb241, 1, none⟩ = some (.int .i64 0) := (blk_cell BK241.out 1).trans rfl; have hfz29_0 := blk_frozen BK241.out 0; have hfz29_1 := blk_frozen BK241.out 1) | ((with_reducible refine gate_store (t := 32) (p := 22) rfl ?_); refine store_event (t := 32) (p := 22) (v := ?vo_w30) (w1 := ((w27.setCell ⟨gb241, 0, none⟩ (.int .i64 t238)).setCell ⟨gb241, 1, none⟩ (.int .i64 t239))) ?hg ?ho ?hn ?hr ?_; (case ho => rfl); (case hg => rfl); (case hn => rfl); (case hr => first | (go_simp; done) | (go_simp; rfl)); intro w30 hw; have n0_ : Aside0 (w30.heap[gb228]? = some (.cells #[.int .i64 a0_0, .slice A0_1 l0_1.length c0_1] 24 (0, 0))) := ⟨(by rw [hw]; exact (by (with_reducible repeat (first | refine blk_drewN ?_ _ | refine blk_drew ?_ | refine blk_alloc ?_ _)); refine blk_far ?_ NB228_241.out _; (with_reducible repeat (first | refine blk_drewN ?_ _ | refine blk_drew ?_ | refine blk_alloc ?_ _)); refine blk_far ?_ NB228_241.out _; (with_reducible repeat (first | refine blk_drewN ?_ _ | refine blk_drew ?_ | refine blk_alloc ?_ _)); exact BK228.out))⟩; have n1_ : Aside0 (w30.heap[gb241]? = some (.cells #[.int .i64 t238, .int .i64 t239] 32 (0, 0))) := ⟨(by rw [hw]; exact (by (with_reducible repeat (first | refine blk_drewN ?_ _ | refine blk_drew ?_ | refine blk_alloc ?_ _)); refine blk_put (cs := #[.int .i64 t238, .int .i64 0]) ?_ 1 _ rfl; (with_reducible repeat (first | refine blk_drewN ?_ _ | refine blk_drew ?_ | refine blk_alloc ?_ _)); refine blk_put (cs := #[.int .i64 0, .int .i64 0]) ?_ 0 _ rfl; (with_reducible repeat (first | refine blk_drewN ?_ _ | refine blk_drew ?_ | refine blk_alloc ?_ _)); exact BK241.out))⟩; have n2_ : Aside0 (Below w.heap.size w w30) := ⟨(by rw [hw]; exact (by repeat (first | (with_reducible first | exact HB.out | apply below_alloc | apply pw_below_drewN | apply below_drew1 | refine below_set ?_ GE228.out | refine below_set ?_ GE241.out) | exact HB.out)))⟩; clear hw; clear BK228; clear BK241; clear HB; have BK228 := n0_; have BK241 := n1_; have HB := n2_; clear n0_ n1_ n2_; have q31 : ((ji13) : Int) ≤ ((l7.length : Int) : Int) := of_decide_eq_true (by first | (with_reducible assumption) | assumption); obtain ⟨i031, hi031, _, hsz31, _⟩ := info_parts info32; have hroom31 : l7.length ≤ c7 := HC7.out; have hC31 : Kd.C k32 _ A7 l7.length l7 := HR7.out; (try clear hcut25); have hcut31 := cut_to (P := Try.prog) 27 32 .i64 Try.underlying27 hi031 A7 l7.length c7 (ji13) (of_decide_eq_true (by first | (with_reducible assumption) | assumption)) q31 hroom31; have hr31 := Kd.C_take (m := ((ji13) : Int).toNat) hC31 (by omega); have hy31 : y242.length = ((ji13) : Int).toNat := (by rw [Ny242.out, List.length_take]; omega); rw [← Ny242.out] at hr31; rw [← hy31] at hcut31; have HR245 := Aside0.mk hr31; have HC245 := Aside0.mk (show y242.length ≤ c7 from by omega); clear hr31 hC31 hroom31 hi031 hsz31; have KY31 := Aside0.mk hy31; clear hy31; replace q31 := eq_true q31) | ((with_reducible refine gate_callee (f := 14) rfl ?_); refine goesL_ (some 74) rfl rfl Try.func14 (by kernel_rfl) rfl #[.slice A7 y242.length c7] rfl (by (try simp only [List.map_toArray, List.map_cons, List.map_nil]); first | done | rfl | (simp only [List.length_drop, List.length_take]; rfl)) ?_; (with_reducible refine (dialtoneref05_Agree.calls k _ _ y242 t246 t247 t248 _ ?side1 ?side2 A20.out).mono ?_); (case side1 => repeat (first | exact (Kd.C_below HR245.out HB.out) | (with_reducible refine Kd.C_alloc ?_ _) | (with_reducible refine Kd.C_drewN ?_ _) | (with_reducible refine Kd.C_drew ?_))); (case side2 => exact HC245.out); rintro e w32 ⟨rfl, hb⟩; refine ⟨_, rfl, ?_⟩; have n0_ := Aside0.mk (blk_below (g := gb228) (o := .cells #[.int .i64 a0_0, .slice A0_1 l0_1.length c0_1] 24 (0, 0)) (by (with_reducible repeat (first | refine blk_drewN ?_ _ | refine blk_drew ?_ | refine blk_alloc ?_ _)); exact BK228.out) hb); have n1_ := Aside0.mk (blk_below (g := gb241) (o := .cells #[.int .i64 t238, .int .i64 t239] 32 (0, 0)) (by (with_reducible repeat (first | refine blk_drewN ?_ _ | refine blk_drew ?_ | refine blk_alloc ?_ _)); exact BK241.out) hb); have n2_ := Aside0.mk (below_step (by repeat (first | (with_reducible first | exact HB.out | apply below_alloc | apply pw_below_drewN | apply below_drew1 | refine below_set ?_ GE228.out | refine below_set ?_ GE241.out) | exact HB.out)) hb); clear BK228; clear BK241; clear HB; have BK228 := n0_; have BK241 := n1_; have HB := n2_; clear n0_ n1_ n2_; (try clear hb); (try clear hb2); (try clear hk); (try clear hi)) | ((with_reducible refine gate_dst (N := 24) rfl ?_); refine box_event ?hg (N := 24) ?hd (cs := #[.int .i64 0, .int .i64 0]) (t := 32) ?hr ?_; (case hd => rfl); (case hg => rfl); (case hr => first | (go_simp; done) | (go_simp; rfl)); intro gb249 hg w33 hbox hb; have n0_ := Aside0.mk (blk_below (g := gb228) (o := .cells #[.int .i64 a0_0, .slice A0_1 l0_1.length c0_1] 24 (0, 0)) (by (with_reducible repeat (first | refine blk_drewN ?_ _ | refine blk_drew ?_ | refine blk_alloc ?_ _)); exact BK228.out) hb); have n1_ := Aside0.mk (blk_below (g := gb241) (o := .cells #[.int .i64 t238, .int .i64 t239] 32 (0, 0)) (by (with_reducible repeat (first | refine blk_drewN ?_ _ | refine blk_drew ?_ | refine blk_alloc ?_ _)); exact BK241.out) hb); have n2_ := Aside0.mk (below_step (by repeat (first | (with_reducible first | exact HB.out | apply below_alloc | apply pw_below_drewN | apply below_drew1 | refine below_set ?_ GE228.out | refine below_set ?_ GE241.out) | exact HB.out)) hb); have n3_ := Aside0.mk (hbox); have n4_ := Aside0.mk ((by rw [hg]; exact (below_size (by repeat (first | (with_reducible first | exact HB.out | apply below_alloc | apply pw_below_drewN | apply below_drew1 | refine below_set ?_ GE228.out | refine below_set ?_ GE241.out) | exact HB.out))) : w.heap.size ≤ gb249)); have n5_ := Aside0.mk ((by rw [hg]; exact (below_size (by repeat (first | (with_reducible first | exact HB.out | apply below_alloc | apply pw_below_drewN | apply below_drew1 | refine below_set ?_ GE228.out | refine below_set ?_ GE241.out) | exact HB.out))) : w.heap.size ≤ gb249)); have n6_ := Aside0.mk ((by rw [hg]; exact Nat.ne_of_lt (blk_lt (g := gb228) (o := .cells #[.int .i64 a0_0, .slice A0_1 l0_1.length c0_1] 24 (0, 0)) (by (with_reducible repeat (first | refine blk_drewN ?_ _ | refine blk_drew ?_ | refine blk_alloc ?_ _)); exact BK228.out)) : gb228 ≠ gb249)); have n7_ := Aside0.mk ((by rw [hg]; exact Nat.ne_of_gt (blk_lt (g := gb228) (o := .cells #[.int .i64 a0_0, .slice A0_1 l0_1.length c0_1] 24 (0, 0)) (by (with_reducible repeat (first | refine blk_drewN ?_ _ | refine blk_drew ?_ | refine blk_alloc ?_ _)); exact BK228.out)) : gb249 ≠ gb228)); have n8_ := Aside0.mk ((by rw [hg]; exact Nat.ne_of_lt (blk_lt (g := gb241) (o := .cells #[.int .i64 t238, .int .i64 t239] 32 (0, 0)) (by (with_reducible repeat (first | refine blk_drewN ?_ _ | refine blk_drew ?_ | refine blk_alloc ?_ _)); exact BK241.out)) : gb241 ≠ gb249)); have n9_ := Aside0.mk ((by rw [hg]; exact Nat.ne_of_gt (blk_lt (g := gb241) (o := .cells #[.int .i64 t238, .int .i64 t239] 32 (0, 0)) (by (with_reducible repeat (first | refine blk_drewN ?_ _ | refine blk_drew ?_ | refine blk_alloc ?_ _)); exact BK241.out)) : gb249 ≠ gb241)); clear BK228; clear BK241; clear HB; have BK228 := n0_; have BK241 := n1_; have HB := n2_; have BK249 := n3_; have GW249 := n4_; have GE249 := n5_; have NB228_249 := n6_; have NB249_228 := n7_; have NB241_249 := n8_; have NB249_241 := n9_; clear n0_ n1_ n2_ n3_ n4_ n5_ n6_ n7_ n8_ n9_; clear hb hbox hg; have hnb34 := NB249_228.out; have hnc34 := NB228_249.out; have hnb35 := NB249_241.out; have hnc35 := NB241_249.out; have hcz36_0 : w33.cell? ⟨gb249, 0, none⟩ = some (.int .i64 0) := (blk_cell BK249.out 0).trans rfl; have hcz36_1 : w33.cell? ⟨gb249, 1, none⟩ = some (.int .i64 0) := (blk_cell BK249.out 1).trans rfl; have hfz36_0 := blk_frozen BK249.out 0; have hfz36_1 := blk_frozen BK249.out 1))
    (try simp only [Act.put, List.setIfInBounds_toArray, List.set_cons_zero, List.set_cons_succ])
    go_cut [94] (fun v94 wc => ∃ (kq : Nat) (x94_20 : Bool), v94 = .bool x94_20 ∧ Aside0 (dialtonelaw05_ClockMatchesReference.j0 kq a1 a2 l3 l4 a5 a6 true x94_20 a0_0 l0_1 = some r) ∧ Aside0 (kq ≤ k) ∧ Aside0 (wc.heap[gb228]? = some (.cells #[.int .i64 a0_0, (.slice A0_1 l0_1.length c0_1)] 24 (0, 0))) ∧ Aside0 (wc.heap[gb241]? = some (.cells #[.int .i64 t238, .int .i64 t239] 32 (0, 0))) ∧ Aside0 (wc.heap[gb249]? = some (.cells #[.int .i64 t246, .int .i64 t247] 32 (0, 0))) ∧ Aside0 (Below w.heap.size w wc))
    case first =>
     have H := HC21.out
     clear HC21
     by_cases c37 : t230 = t232
     ·
      rw [if_pos c37] at H
      have c37b0 : (t230 == t232) = true := beq_iff_eq.mpr c37
      have c37b1 : (t230 != t232) = false := bne_eq_false_iff_eq.mpr c37
      clear c37
      (first | rw [c37b0] | (simp only [i64_w, i32_w]; rw [c37b0]) | skip)
      by_cases c38 : t231 = t233
      ·
       rw [if_pos c38] at H
       have c38b0 : (t231 == t233) = true := beq_iff_eq.mpr c38
       have c38b1 : (t231 != t233) = false := bne_eq_false_iff_eq.mpr c38
       clear c38
       by_cases c39 : (!(t238 == t246) || (!(t239 == t247))) = true
       ·
        rw [if_pos c39] at H
        have c39b0 : (!(t238 == t246) || (!(t239 == t247))) = true := c39
        clear c39
        have H' := Aside0.mk H
        clear H
        have hnb40 := NB241_228.out
        have hnc40 := NB228_241.out
        have hnb41 := NB241_249.out
        have hnc41 := NB249_241.out
        have hcz42_0 : w33.cell? ⟨gb241, 0, none⟩ = some (.int .i64 t238) := (blk_cell BK241.out 0).trans rfl
        have hcz42_1 : w33.cell? ⟨gb241, 1, none⟩ = some (.int .i64 t239) := (blk_cell BK241.out 1).trans rfl
        have hfz42_0 := blk_frozen BK241.out 0
        have hfz42_1 := blk_frozen BK241.out 1
        have hnb43 := NB249_228.out
        have hnc43 := NB228_249.out
        have hcz44_0 : w33.cell? ⟨gb249, 0, none⟩ = some (.int .i64 0) := (blk_cell BK249.out 0).trans rfl
        have hcz44_1 : w33.cell? ⟨gb249, 1, none⟩ = some (.int .i64 0) := (blk_cell BK249.out 1).trans rfl
        have hfz44_0 := blk_frozen BK249.out 0
        have hfz44_1 := blk_frozen BK249.out 1
        go_wp2
        go_meet
        case rel => exact ⟨_, (true), (by first | rfl | (simp; done) | (simp [*]; done)), H', ⟨by first | omega | exact Nat.le_refl _⟩, ⟨by (with_reducible repeat (first | refine blk_drewN ?_ _ | refine blk_drew ?_ | refine blk_alloc ?_ _)); refine blk_far ?_ NB228_249.out _; (with_reducible repeat (first | refine blk_drewN ?_ _ | refine blk_drew ?_ | refine blk_alloc ?_ _)); refine blk_far ?_ NB228_249.out _; (with_reducible repeat (first | refine blk_drewN ?_ _ | refine blk_drew ?_ | refine blk_alloc ?_ _)); exact BK228.out⟩, ⟨by (with_reducible repeat (first | refine blk_drewN ?_ _ | refine blk_drew ?_ | refine blk_alloc ?_ _)); refine blk_far ?_ NB241_249.out _; (with_reducible repeat (first | refine blk_drewN ?_ _ | refine blk_drew ?_ | refine blk_alloc ?_ _)); refine blk_far ?_ NB241_249.out _; (with_reducible repeat (first | refine blk_drewN ?_ _ | refine blk_drew ?_ | refine blk_alloc ?_ _)); exact BK241.out⟩, ⟨by (with_reducible repeat (first | refine blk_drewN ?_ _ | refine blk_drew ?_ | refine blk_alloc ?_ _)); refine blk_put (cs := #[.int .i64 t246, .int .i64 0]) ?_ 1 _ rfl; (with_reducible repeat (first | refine blk_drewN ?_ _ | refine blk_drew ?_ | refine blk_alloc ?_ _)); refine blk_put (cs := #[.int .i64 0, .int .i64 0]) ?_ 0 _ rfl; (with_reducible repeat (first | refine blk_drewN ?_ _ | refine blk_drew ?_ | refine blk_alloc ?_ _)); exact BK249.out⟩, ⟨by repeat (first | (with_reducible first | exact HB.out | apply below_alloc | apply pw_below_drewN | apply below_drew1 | refine below_set ?_ GE228.out | refine below_set ?_ GE241.out | refine below_set ?_ GE249.out) | exact HB.out)⟩⟩
       ·
        rw [if_neg c39] at H
        have c39b0 : (!(t238 == t246) || (!(t239 == t247))) = false := by simpa using c39
        clear c39
        have H' := Aside0.mk H
        clear H
        have hnb45 := NB241_228.out
        have hnc45 := NB228_241.out
        have hnb46 := NB241_249.out
        have hnc46 := NB249_241.out
        have hcz47_0 : w33.cell? ⟨gb241, 0, none⟩ = some (.int .i64 t238) := (blk_cell BK241.out 0).trans rfl
        have hcz47_1 : w33.cell? ⟨gb241, 1, none⟩ = some (.int .i64 t239) := (blk_cell BK241.out 1).trans rfl
        have hfz47_0 := blk_frozen BK241.out 0
        have hfz47_1 := blk_frozen BK241.out 1
        have hnb48 := NB249_228.out
        have hnc48 := NB228_249.out
        have hcz49_0 : w33.cell? ⟨gb249, 0, none⟩ = some (.int .i64 0) := (blk_cell BK249.out 0).trans rfl
        have hcz49_1 : w33.cell? ⟨gb249, 1, none⟩ = some (.int .i64 0) := (blk_cell BK249.out 1).trans rfl
        have hfz49_0 := blk_frozen BK249.out 0
        have hfz49_1 := blk_frozen BK249.out 1
        go_wp2
        go_meet
        case rel => exact ⟨_, ((t240 != t248)), (by first | rfl | (simp; done) | (simp [*]; done)), H', ⟨by first | omega | exact Nat.le_refl _⟩, ⟨by (with_reducible repeat (first | refine blk_drewN ?_ _ | refine blk_drew ?_ | refine blk_alloc ?_ _)); refine blk_far ?_ NB228_249.out _; (with_reducible repeat (first | refine blk_drewN ?_ _ | refine blk_drew ?_ | refine blk_alloc ?_ _)); refine blk_far ?_ NB228_249.out _; (with_reducible repeat (first | refine blk_drewN ?_ _ | refine blk_drew ?_ | refine blk_alloc ?_ _)); exact BK228.out⟩, ⟨by (with_reducible repeat (first | refine blk_drewN ?_ _ | refine blk_drew ?_ | refine blk_alloc ?_ _)); refine blk_far ?_ NB241_249.out _; (with_reducible repeat (first | refine blk_drewN ?_ _ | refine blk_drew ?_ | refine blk_alloc ?_ _)); refine blk_far ?_ NB241_249.out _; (with_reducible repeat (first | refine blk_drewN ?_ _ | refine blk_drew ?_ | refine blk_alloc ?_ _)); exact BK241.out⟩, ⟨by (with_reducible repeat (first | refine blk_drewN ?_ _ | refine blk_drew ?_ | refine blk_alloc ?_ _)); refine blk_put (cs := #[.int .i64 t246, .int .i64 0]) ?_ 1 _ rfl; (with_reducible repeat (first | refine blk_drewN ?_ _ | refine blk_drew ?_ | refine blk_alloc ?_ _)); refine blk_put (cs := #[.int .i64 0, .int .i64 0]) ?_ 0 _ rfl; (with_reducible repeat (first | refine blk_drewN ?_ _ | refine blk_drew ?_ | refine blk_alloc ?_ _)); exact BK249.out⟩, ⟨by repeat (first | (with_reducible first | exact HB.out | apply below_alloc | apply pw_below_drewN | apply below_drew1 | refine below_set ?_ GE228.out | refine below_set ?_ GE241.out | refine below_set ?_ GE249.out) | exact HB.out)⟩⟩
      ·
       rw [if_neg c38] at H
       have c38b0 : (t231 == t233) = false := beq_eq_false_iff_ne.mpr c38
       have c38b1 : (t231 != t233) = true := bne_iff_ne.mpr c38
       have H' := Aside0.mk H
       clear H
       go_wp2
       go_meet
       case rel => exact ⟨_, (true), (by first | rfl | (simp; done) | (simp [*]; done)), H', ⟨by first | omega | exact Nat.le_refl _⟩, ⟨by (with_reducible repeat (first | refine blk_drewN ?_ _ | refine blk_drew ?_ | refine blk_alloc ?_ _)); refine blk_far ?_ NB228_249.out _; (with_reducible repeat (first | refine blk_drewN ?_ _ | refine blk_drew ?_ | refine blk_alloc ?_ _)); refine blk_far ?_ NB228_249.out _; (with_reducible repeat (first | refine blk_drewN ?_ _ | refine blk_drew ?_ | refine blk_alloc ?_ _)); exact BK228.out⟩, ⟨by (with_reducible repeat (first | refine blk_drewN ?_ _ | refine blk_drew ?_ | refine blk_alloc ?_ _)); refine blk_far ?_ NB241_249.out _; (with_reducible repeat (first | refine blk_drewN ?_ _ | refine blk_drew ?_ | refine blk_alloc ?_ _)); refine blk_far ?_ NB241_249.out _; (with_reducible repeat (first | refine blk_drewN ?_ _ | refine blk_drew ?_ | refine blk_alloc ?_ _)); exact BK241.out⟩, ⟨by (with_reducible repeat (first | refine blk_drewN ?_ _ | refine blk_drew ?_ | refine blk_alloc ?_ _)); refine blk_put (cs := #[.int .i64 t246, .int .i64 0]) ?_ 1 _ rfl; (with_reducible repeat (first | refine blk_drewN ?_ _ | refine blk_drew ?_ | refine blk_alloc ?_ _)); refine blk_put (cs := #[.int .i64 0, .int .i64 0]) ?_ 0 _ rfl; (with_reducible repeat (first | refine blk_drewN ?_ _ | refine blk_drew ?_ | refine blk_alloc ?_ _)); exact BK249.out⟩, ⟨by repeat (first | (with_reducible first | exact HB.out | apply below_alloc | apply pw_below_drewN | apply below_drew1 | refine below_set ?_ GE228.out | refine below_set ?_ GE241.out | refine below_set ?_ GE249.out) | exact HB.out)⟩⟩
     ·
      rw [if_neg c37] at H
      have c37b0 : (t230 == t232) = false := beq_eq_false_iff_ne.mpr c37
      have c37b1 : (t230 != t232) = true := bne_iff_ne.mpr c37
      (first | rw [c37b0] | (simp only [i64_w, i32_w]; rw [c37b0]) | skip)
      have H' := Aside0.mk H
      clear H
      go_wp2
      go_meet
      case rel => exact ⟨_, (true), (by first | rfl | (simp; done) | (simp [*]; done)), H', ⟨by first | omega | exact Nat.le_refl _⟩, ⟨by (with_reducible repeat (first | refine blk_drewN ?_ _ | refine blk_drew ?_ | refine blk_alloc ?_ _)); refine blk_far ?_ NB228_249.out _; (with_reducible repeat (first | refine blk_drewN ?_ _ | refine blk_drew ?_ | refine blk_alloc ?_ _)); refine blk_far ?_ NB228_249.out _; (with_reducible repeat (first | refine blk_drewN ?_ _ | refine blk_drew ?_ | refine blk_alloc ?_ _)); exact BK228.out⟩, ⟨by (with_reducible repeat (first | refine blk_drewN ?_ _ | refine blk_drew ?_ | refine blk_alloc ?_ _)); refine blk_far ?_ NB241_249.out _; (with_reducible repeat (first | refine blk_drewN ?_ _ | refine blk_drew ?_ | refine blk_alloc ?_ _)); refine blk_far ?_ NB241_249.out _; (with_reducible repeat (first | refine blk_drewN ?_ _ | refine blk_drew ?_ | refine blk_alloc ?_ _)); exact BK241.out⟩, ⟨by (with_reducible repeat (first | refine blk_drewN ?_ _ | refine blk_drew ?_ | refine blk_alloc ?_ _)); refine blk_put (cs := #[.int .i64 t246, .int .i64 0]) ?_ 1 _ rfl; (with_reducible repeat (first | refine blk_drewN ?_ _ | refine blk_drew ?_ | refine blk_alloc ?_ _)); refine blk_put (cs := #[.int .i64 0, .int .i64 0]) ?_ 0 _ rfl; (with_reducible repeat (first | refine blk_drewN ?_ _ | refine blk_drew ?_ | refine blk_alloc ?_ _)); exact BK249.out⟩, ⟨by repeat (first | (with_reducible first | exact HB.out | apply below_alloc | apply pw_below_drewN | apply below_drew1 | refine below_set ?_ GE228.out | refine below_set ?_ GE241.out | refine below_set ?_ GE249.out) | exact HB.out)⟩⟩
    case rest => as_aux_lemma =>
     clear HC21
     try clear c1
     try clear c2
     try clear p2
     try clear q2
     try clear c3
     try clear q3
     try clear c4
     try clear c7
     try clear c10
     try clear c11
     try clear c12
     try clear c13
     try clear c14
     try clear c14b0
     try clear c14b1
     try clear c15
     try clear c15b0
     try clear c15b1
     try clear c17
     try clear c17b0
     try clear c18
     try clear c18b0
     try clear c19
     try clear c19b0
     try clear q25
     try clear c28
     try clear q31
     try clear c34
     try clear c35
     try clear c37
     try clear c37b0
     try clear c37b1
     try clear c38
     try clear c38b0
     try clear c38b1
     try clear c39
     try clear c39b0
     try clear c40
     try clear c41
     try clear c43
     try clear c45
     try clear c46
     try clear c48
     try clear hcz29_0
     try clear hcz29_1
     try clear hcz36_0
     try clear hcz36_1
     try clear hcz42_0
     try clear hcz42_1
     try clear hcz44_0
     try clear hcz44_1
     try clear hcz47_0
     try clear hcz47_1
     try clear hcz49_0
     try clear hcz49_1
     try clear hfz29_0
     try clear hfz29_1
     try clear hfz36_0
     try clear hfz36_1
     try clear hfz42_0
     try clear hfz42_1
     try clear hfz44_0
     try clear hfz44_1
     try clear hfz47_0
     try clear hfz47_1
     try clear hfz49_0
     try clear hfz49_1
     try clear q25
     try clear q31
     obtain ⟨kq, x94_20, rfl, HA, HJ20, BK228, BK241, BK249, HB⟩ := hcut
     cases kq with
     | zero => exact absurd HA.out (by simp [dialtonelaw05_ClockMatchesReference.j0])
     | succ kj20 =>
      have H := HA.out
      clear HA
      simp only [dialtonelaw05_ClockMatchesReference.j0] at H
      by_cases c50 : x94_20 = true
      ·
       subst c50
       have H1 : (none) = some r := by rw [if_pos rfl] at H; exact H
       clear H
       have H := H1
       clear H1
       exact absurd H (by simp)
      ·
       replace c50 := Bool.eq_false_iff.mpr c50
       subst c50
       have H1 : ((dialtonelaw05_few.f a0_0 l0_1).bind fun bt250 => ((dialtoneref05_Made.f kj20 a1 a2 l3 l4).bind fun bt254 => (dialtonelaw05_ClockMatchesReference.l0 kj20 a5 a6 true (([(⟨bt250.1, bt250.2⟩ : S24), (⟨bt254.1, bt254.2⟩ : S24)] : List (S24))) 0))) = some r := by rw [if_neg (show ¬ (false = true) by decide)] at H; exact H
       clear H
       have H := H1
       clear H1
       replace H := Option.bind_eq_some_iff.mp H
       obtain ⟨⟨t250, t251⟩, A510, H⟩ := H
       replace H : ((dialtoneref05_Made.f kj20 a1 a2 l3 l4).bind fun bt254 => (dialtonelaw05_ClockMatchesReference.l0 kj20 a5 a6 true (([(⟨t250, t251⟩ : S24), (⟨bt254.1, bt254.2⟩ : S24)] : List (S24))) 0)) = some r := H
       have A51 := Aside0.mk A510
       clear A510
       replace H := Option.bind_eq_some_iff.mp H
       obtain ⟨⟨t254, t255⟩, A520, H⟩ := H
       replace H : (dialtonelaw05_ClockMatchesReference.l0 kj20 a5 a6 true (([(⟨t250, t251⟩ : S24), (⟨t254, t255⟩ : S24)] : List (S24))) 0) = some r := H
       have A52 := Aside0.mk A520
       clear A520
       obtain ⟨y258, hy258⟩ : ∃ y_ : List (S24), y_ = (([(⟨t250, t251⟩ : S24), (⟨t254, t255⟩ : S24)] : List (S24))) := ⟨_, rfl⟩
       replace H : (dialtonelaw05_ClockMatchesReference.l0 kj20 a5 a6 true y258 0) = some r := by first | (rw [hy258]; with_reducible exact H) | (have H2_ := (Option.bind_some _ _).symm.trans H; rw [hy258]; with_reducible exact H2_) | (have H2_ := (Option.bind_some _ _).symm.trans H; with_reducible exact H2_) | with_reducible exact H | (rw [hy258]; exact H) | exact H
       have Ny258 := Aside0.mk hy258
       clear hy258
       have H' := Aside0.mk H
       clear H
       have hnb53 := NB228_241.out
       have hnc53 := NB241_228.out
       have hnb54 := NB228_249.out
       have hnc54 := NB249_228.out
       have hcz55_0 : wc.cell? ⟨gb228, 0, none⟩ = some (.int .i64 a0_0) := (blk_cell BK228.out 0).trans rfl
       have hcz55_1 : wc.cell? ⟨gb228, 1, none⟩ = some (.slice A0_1 l0_1.length c0_1) := (blk_cell BK228.out 1).trans rfl
       have hfz55_0 := blk_frozen BK228.out 0
       have hfz55_1 := blk_frozen BK228.out 1
       go_wp2_with (first | ((with_reducible refine gate_callee (f := 15) rfl ?_); refine goesL_ (some 96) rfl rfl Try.func15 (by kernel_rfl) rfl #[.agg #[.int .i64 a0_0, .slice A0_1 l0_1.length c0_1]] rfl (by (try simp only [List.map_toArray, List.map_cons, List.map_nil]); first | done | rfl | (simp only [List.length_drop, List.length_take]; rfl)) ?_; (with_reducible refine (dialtonelaw05_few.calls a0_0 _ _ l0_1 t250 t251 _ ?side1 ?side2 A51.out).mono ?_); (case side1 => repeat (first | exact (Kd.C_below HR0_1.out HB.out) | (with_reducible refine Kd.C_alloc ?_ _) | (with_reducible refine Kd.C_drewN ?_ _) | (with_reducible refine Kd.C_drew ?_))); (case side2 => exact HC0_1.out); rintro e w56 ⟨rfl, hb⟩; refine ⟨_, rfl, ?_⟩; have n1_ := Aside0.mk (blk_below (g := gb228) (o := .cells #[.int .i64 a0_0, .slice A0_1 l0_1.length c0_1] 24 (0, 0)) (by (with_reducible repeat (first | refine blk_drewN ?_ _ | refine blk_drew ?_ | refine blk_alloc ?_ _)); exact BK228.out) hb); have n2_ := Aside0.mk (blk_below (g := gb241) (o := .cells #[.int .i64 t238, .int .i64 t239] 32 (0, 0)) (by (with_reducible repeat (first | refine blk_drewN ?_ _ | refine blk_drew ?_ | refine blk_alloc ?_ _)); exact BK241.out) hb); have n3_ := Aside0.mk (blk_below (g := gb249) (o := .cells #[.int .i64 t246, .int .i64 t247] 32 (0, 0)) (by (with_reducible repeat (first | refine blk_drewN ?_ _ | refine blk_drew ?_ | refine blk_alloc ?_ _)); exact BK249.out) hb); have n4_ := Aside0.mk (below_step (by repeat (first | (with_reducible first | exact HB.out | apply below_alloc | apply pw_below_drewN | apply below_drew1 | refine below_set ?_ GE228.out | refine below_set ?_ GE241.out | refine below_set ?_ GE249.out) | exact HB.out)) hb); have n0_ := Aside0.mk (few_old HR0_1.out A51.out n4_.out); clear BK228; clear BK241; clear BK249; clear HB; have HO253 := n0_; have BK228 := n1_; have BK241 := n2_; have BK249 := n3_; have HB := n4_; clear n0_ n1_ n2_ n3_ n4_; (try clear hb); (try clear hb2); (try clear hk); (try clear hi); (try clear ho0)) | ((with_reducible refine gate_callee (f := 16) rfl ?_); refine goesL_ (some 101) rfl rfl Try.func16 (by kernel_rfl) rfl #[.int .i64 a1, .int .i64 a2, .slice A3 l3.length c3, .slice A4 l4.length c4] rfl (by (try simp only [List.map_toArray, List.map_cons, List.map_nil]); first | done | rfl | (simp only [List.length_drop, List.length_take]; rfl)) ?_; (with_reducible refine (dialtoneref05_Made.calls kj20 a1 a2 _ _ l3 _ _ l4 t254 t255 _ ?side1 ?side2 ?side3 ?side4 A52.out).mono ?_); (case side1 => repeat (first | exact (Kd.C_below HR3.out HB.out) | (with_reducible refine Kd.C_alloc ?_ _) | (with_reducible refine Kd.C_drewN ?_ _) | (with_reducible refine Kd.C_drew ?_))); (case side2 => exact HC3.out); (case side3 => repeat (first | exact (Kd.C_below HR4.out HB.out) | (with_reducible refine Kd.C_alloc ?_ _) | (with_reducible refine Kd.C_drewN ?_ _) | (with_reducible refine Kd.C_drew ?_))); (case side4 => exact HC4.out); rintro e w57 ⟨v256, rfl, ho0, hb⟩; refine ⟨_, rfl, ?_⟩; have n1_ := Aside0.mk (Kd.R_lower ho0 (below_size (by repeat (first | (with_reducible first | exact HB.out | apply below_alloc | apply pw_below_drewN | apply below_drew1 | refine below_set ?_ GE228.out | refine below_set ?_ GE241.out | refine below_set ?_ GE249.out) | exact HB.out)))); have n2_ := Aside0.mk (blk_below (g := gb228) (o := .cells #[.int .i64 a0_0, .slice A0_1 l0_1.length c0_1] 24 (0, 0)) (by (with_reducible repeat (first | refine blk_drewN ?_ _ | refine blk_drew ?_ | refine blk_alloc ?_ _)); exact BK228.out) hb); have n3_ := Aside0.mk (blk_below (g := gb241) (o := .cells #[.int .i64 t238, .int .i64 t239] 32 (0, 0)) (by (with_reducible repeat (first | refine blk_drewN ?_ _ | refine blk_drew ?_ | refine blk_alloc ?_ _)); exact BK241.out) hb); have n4_ := Aside0.mk (blk_below (g := gb249) (o := .cells #[.int .i64 t246, .int .i64 t247] 32 (0, 0)) (by (with_reducible repeat (first | refine blk_drewN ?_ _ | refine blk_drew ?_ | refine blk_alloc ?_ _)); exact BK249.out) hb); have n5_ := Aside0.mk (below_step (by repeat (first | (with_reducible first | exact HB.out | apply below_alloc | apply pw_below_drewN | apply below_drew1 | refine below_set ?_ GE228.out | refine below_set ?_ GE241.out | refine below_set ?_ GE249.out) | exact HB.out)) hb); have n0_ := Aside0.mk (few_old HR0_1.out A51.out n5_.out); clear HO253; clear BK228; clear BK241; clear BK249; clear HB; have HO253 := n0_; have HO257 := n1_; have BK228 := n2_; have BK241 := n3_; have BK249 := n4_; have HB := n5_; clear n0_ n1_ n2_ n3_ n4_ n5_; (try clear hb); (try clear hb2); (try clear hk); (try clear hi); (try clear ho0); obtain ⟨Ao59, co59, eo59⟩ := Kd.R_slice HO257.out; subst eo59) | ((with_reducible refine gate_dst (N := 102) rfl ?_); refine Kd.N_lit k24 _ 24 ?hg (N' := 102) ?hd (xs := ([(⟨t250, t251⟩ : S24), (⟨t254, t255⟩ : S24)] : List (S24))) (inner := [.int .i64 t250, .slice A0_1 t251.length c0_1, .int .i64 t254, .slice Ao59 t255.length co59]) (ok := (fun k_ => k_ ≠ gb228 ∧ k_ ≠ gb241 ∧ k_ ≠ gb249)) (okp := (fun k_ => k_ ≠ gb228 ∧ k_ ≠ gb241 ∧ k_ ≠ gb249)) ?hr ?hp (fun _ hk => hk) ((show ∀ k_, w57.heap.size ≤ k_ → (fun k_ => k_ ≠ gb228 ∧ k_ ≠ gb241 ∧ k_ ≠ gb249) k_ from fun k_ hk => ⟨Kd.freshB (g := gb228) (o := .cells #[.int .i64 a0_0, .slice A0_1 l0_1.length c0_1] 24 (0, 0)) (by (with_reducible repeat (first | refine blk_drewN ?_ _ | refine blk_drew ?_ | refine blk_alloc ?_ _)); exact BK228.out) k_ hk, Kd.freshB (g := gb241) (o := .cells #[.int .i64 t238, .int .i64 t239] 32 (0, 0)) (by (with_reducible repeat (first | refine blk_drewN ?_ _ | refine blk_drew ?_ | refine blk_alloc ?_ _)); exact BK241.out) k_ hk, Kd.freshB (g := gb249) (o := .cells #[.int .i64 t246, .int .i64 t247] 32 (0, 0)) (by (with_reducible repeat (first | refine blk_drewN ?_ _ | refine blk_drew ?_ | refine blk_alloc ?_ _)); exact BK249.out) k_ hk⟩) _ (Nat.le_refl _)) (Below.refl _ _) (Nat.le_refl _) (by simp) ?_; (case hd => rfl); (case hg => rfl); (case hr => first | (go_simp; done) | (go_simp; rfl)); (case hp => exact (Reps.c2 (show Kd.FK k24 _ _ (⟨t250, t251⟩ : S24) [.int .i64 t250, .slice A0_1 t251.length c0_1] from (k24_mkF _ _ (⟨t250, t251⟩ : S24) (few_len HC0_1.out A51.out) (Kd.F_mono (ok' := (fun k_ => k_ ≠ gb228 ∧ k_ ≠ gb241 ∧ k_ ≠ gb249)) HO253.out (fun k_ hk => ⟨Nat.ne_of_lt (Nat.lt_of_lt_of_le hk GE228.out), ⟨Nat.ne_of_lt (Nat.lt_of_lt_of_le hk GE241.out), Nat.ne_of_lt (Nat.lt_of_lt_of_le hk GE249.out)⟩⟩)))) (Reps.c2 (show Kd.FK k24 _ _ (⟨t254, t255⟩ : S24) [.int .i64 t254, .slice Ao59 t255.length co59] from (k24_mkF _ _ (⟨t254, t255⟩ : S24) (Kd.R_reads' (Kd.R_mono (ok' := (fun k_ => k_ ≠ gb228 ∧ k_ ≠ gb241 ∧ k_ ≠ gb249)) (Kd.R_types (Kd.R_types (Kd.R_types (HO257.out) BK228.out (by decide)) BK241.out (by decide)) BK249.out (by decide)) (fun k_ hk => ⟨hk.1.1.2, ⟨hk.1.2, hk.2⟩⟩))).2.1 (Kd.R_F (Kd.R_mono (ok' := (fun k_ => k_ ≠ gb228 ∧ k_ ≠ gb241 ∧ k_ ≠ gb249)) (Kd.R_types (Kd.R_types (Kd.R_types (HO257.out) BK228.out (by decide)) BK241.out (by decide)) BK249.out (by decide)) (fun k_ hk => ⟨hk.1.1.2, ⟨hk.1.2, hk.2⟩⟩))))) (Reps.none _ _)))); intro v259 w60 ho61 hb hg_ hnew_; clear hg_ hnew_; (first | rw [← Ny258.out] at ho61 | (simp only [Int.reduceToNat] at ho61; rw [← Ny258.out] at ho61)); have n0_ := Aside0.mk (Kd.N_lower ho61 (below_size (by repeat (first | (with_reducible first | exact HB.out | apply below_alloc | apply pw_below_drewN | apply below_drew1 | refine below_set ?_ GE228.out | refine below_set ?_ GE241.out | refine below_set ?_ GE249.out) | exact HB.out)))); have n1_ := Aside0.mk (blk_below (g := gb228) (o := .cells #[.int .i64 a0_0, .slice A0_1 l0_1.length c0_1] 24 (0, 0)) (by (with_reducible repeat (first | refine blk_drewN ?_ _ | refine blk_drew ?_ | refine blk_alloc ?_ _)); exact BK228.out) hb); have n2_ := Aside0.mk (blk_below (g := gb241) (o := .cells #[.int .i64 t238, .int .i64 t239] 32 (0, 0)) (by (with_reducible repeat (first | refine blk_drewN ?_ _ | refine blk_drew ?_ | refine blk_alloc ?_ _)); exact BK241.out) hb); have n3_ := Aside0.mk (blk_below (g := gb249) (o := .cells #[.int .i64 t246, .int .i64 t247] 32 (0, 0)) (by (with_reducible repeat (first | refine blk_drewN ?_ _ | refine blk_drew ?_ | refine blk_alloc ?_ _)); exact BK249.out) hb); have n4_ := Aside0.mk (below_step (by repeat (first | (with_reducible first | exact HB.out | apply below_alloc | apply pw_below_drewN | apply below_drew1 | refine below_set ?_ GE228.out | refine below_set ?_ GE241.out | refine below_set ?_ GE249.out) | exact HB.out)) hb); clear BK228; clear BK241; clear BK249; clear HB; clear HO253; clear HO257; have HO260 := n0_; have BK228 := n1_; have BK241 := n2_; have BK249 := n3_; have HB := n4_; clear n0_ n1_ n2_ n3_ n4_; clear hb ho61))
       go_loopg [27] kj20 (fun kq v27 w' => ∃ (x27_2 : Int), v27 = .int .i64 x27_2 ∧ Aside0 (dialtonelaw05_ClockMatchesReference.l0 kq a5 a6 true y258 x27_2 = some r) ∧ Aside0 (kq ≤ kj20) ∧ Aside0 (Kd.N k24 24 w' w.heap.size (fun k_ => k_ ≠ gb228 ∧ k_ ≠ gb241 ∧ k_ ≠ gb249) v259 y258) ∧ Aside0 (w'.heap[gb228]? = some (.cells #[.int .i64 a0_0, (.slice A0_1 l0_1.length c0_1)] 24 (0, 0))) ∧ Aside0 (w'.heap[gb241]? = some (.cells #[.int .i64 t238, .int .i64 t239] 32 (0, 0))) ∧ Aside0 (w'.heap[gb249]? = some (.cells #[.int .i64 t246, .int .i64 t247] 32 (0, 0))) ∧ Aside0 (Below w.heap.size w w'))
       case atStart => exact ⟨(0), (by first | rfl | (simp; done) | (simp [*]; done)), H', ⟨Nat.le_refl _⟩, ⟨by (with_reducible repeat (first | apply Kd.N_alloc | apply Kd.N_drewN | apply Kd.N_drew)); exact HO260.out⟩, ⟨by (with_reducible repeat (first | refine blk_drewN ?_ _ | refine blk_drew ?_ | refine blk_alloc ?_ _)); exact BK228.out⟩, ⟨by (with_reducible repeat (first | refine blk_drewN ?_ _ | refine blk_drew ?_ | refine blk_alloc ?_ _)); exact BK241.out⟩, ⟨by (with_reducible repeat (first | refine blk_drewN ?_ _ | refine blk_drew ?_ | refine blk_alloc ?_ _)); exact BK249.out⟩, ⟨by repeat (first | (with_reducible first | exact HB.out | apply below_alloc | apply pw_below_drewN | apply below_drew1 | refine below_set ?_ GE228.out | refine below_set ?_ GE241.out | refine below_set ?_ GE249.out) | exact HB.out)⟩⟩
       case round => as_aux_lemma =>
        clear H'
        try clear c1
        try clear c2
        try clear p2
        try clear q2
        try clear c3
        try clear q3
        try clear c4
        try clear c5
        try clear c7
        try clear c10
        try clear c11
        try clear c12
        try clear c13
        try clear c14
        try clear c14b0
        try clear c14b1
        try clear c15
        try clear c15b0
        try clear c15b1
        try clear c16
        try clear c17
        try clear c17b0
        try clear c18
        try clear c18b0
        try clear c19
        try clear c19b0
        try clear q25
        try clear c28
        try clear q31
        try clear c34
        try clear c35
        try clear c37
        try clear c37b0
        try clear c37b1
        try clear c38
        try clear c38b0
        try clear c38b1
        try clear c39
        try clear c39b0
        try clear c40
        try clear c41
        try clear c43
        try clear c45
        try clear c46
        try clear c48
        try clear c50
        try clear c53
        try clear c54
        try clear hcz29_0
        try clear hcz29_1
        try clear hcz36_0
        try clear hcz36_1
        try clear hcz42_0
        try clear hcz42_1
        try clear hcz44_0
        try clear hcz44_1
        try clear hcz47_0
        try clear hcz47_1
        try clear hcz49_0
        try clear hcz49_1
        try clear hcz55_0
        try clear hcz55_1
        try clear hfz29_0
        try clear hfz29_1
        try clear hfz36_0
        try clear hfz36_1
        try clear hfz42_0
        try clear hfz42_1
        try clear hfz44_0
        try clear hfz44_1
        try clear hfz47_0
        try clear hfz47_1
        try clear hfz49_0
        try clear hfz49_1
        try clear hfz55_0
        try clear hfz55_1
        try clear p2
        try clear q2
        try clear q25
        try clear q3
        try clear q31
        obtain ⟨x27_2, rfl, HA, HK2, HO_26, BK228, BK241, BK249, HB⟩ := hrel
        cases gk with
        | zero => exact absurd HA.out (by simp [dialtonelaw05_ClockMatchesReference.l0])
        | succ k2 =>
         have H := HA.out
         clear HA
         simp only [dialtonelaw05_ClockMatchesReference.l0] at H
         by_cases c62 : x27_2 < 2
         ·
          rw [if_pos c62] at H
          have c62b0 : decide (x27_2 < 2) = true := decide_eq_true c62
          clear c62
          by_cases c63 : 0 ≤ x27_2
          ·
           rw [if_pos c63] at H
           have c63b0 : decide (0 ≤ x27_2) = true := decide_eq_true c63
           clear c63
           by_cases c64 : x27_2 < (y258.length : Int)
           ·
            rw [if_pos c64] at H
            have c64b0 : decide (x27_2 < (y258.length : Int)) = true := decide_eq_true c64
            clear c64
            replace H := Option.bind_eq_some_iff.mp H
            obtain ⟨t263, A650, H⟩ := H
            replace H : ((dialtoneref05_Valid.f k2 ((rd_T24 y258 x27_2).f0) ((rd_T24 y258 x27_2).f1)).bind fun t264 => (if (t263 != t264) = true then (none) else ((dialtonelaw05_pick.f a5 5000).bind fun t265 => ((dialtonelaw05_pick.f a6 5000).bind fun t269 => (dialtonelaw05_ClockMatchesReference.l1 k2 a5 a6 true y258 x27_2 (([a5, t265] : List Int)) (([a6, t269] : List Int)) 0 ((rd_T24 y258 x27_2).f0) ((rd_T24 y258 x27_2).f1)))))) = some r := H
            have A65 := Aside0.mk A650
            clear A650
            replace H := Option.bind_eq_some_iff.mp H
            obtain ⟨t264, A660, H⟩ := H
            replace H : (if (t263 != t264) = true then (none) else ((dialtonelaw05_pick.f a5 5000).bind fun t265 => ((dialtonelaw05_pick.f a6 5000).bind fun t269 => (dialtonelaw05_ClockMatchesReference.l1 k2 a5 a6 true y258 x27_2 (([a5, t265] : List Int)) (([a6, t269] : List Int)) 0 ((rd_T24 y258 x27_2).f0) ((rd_T24 y258 x27_2).f1))))) = some r := H
            have A66 := Aside0.mk A660
            clear A660
            by_cases c67 : (t263 != t264) = true
            ·
             rw [if_pos c67] at H
             exact absurd H (by simp)
            ·
             rw [if_neg c67] at H
             have c67b0 : (t263 != t264) = false := by simpa using c67
             (try (have c67b1 : decide (t263 = t264) = true := by simpa using c67))
             (try (have c67b2 : (t263 == t264) = true := by simpa using c67))
             clear c67
             replace H := Option.bind_eq_some_iff.mp H
             obtain ⟨t265, A680, H⟩ := H
             replace H : ((dialtonelaw05_pick.f a6 5000).bind fun t269 => (dialtonelaw05_ClockMatchesReference.l1 k2 a5 a6 true y258 x27_2 (([a5, t265] : List Int)) (([a6, t269] : List Int)) 0 ((rd_T24 y258 x27_2).f0) ((rd_T24 y258 x27_2).f1))) = some r := H
             have A68 := Aside0.mk A680
             clear A680
             obtain ⟨y266, hy266⟩ : ∃ y_ : List Int, y_ = (([a5, t265] : List Int)) := ⟨_, rfl⟩
             replace H : ((dialtonelaw05_pick.f a6 5000).bind fun t269 => (dialtonelaw05_ClockMatchesReference.l1 k2 a5 a6 true y258 x27_2 y266 (([a6, t269] : List Int)) 0 ((rd_T24 y258 x27_2).f0) ((rd_T24 y258 x27_2).f1))) = some r := by first | (rw [hy266]; with_reducible exact H) | (have H2_ := (Option.bind_some _ _).symm.trans H; rw [hy266]; with_reducible exact H2_) | (have H2_ := (Option.bind_some _ _).symm.trans H; with_reducible exact H2_) | with_reducible exact H | (rw [hy266]; exact H) | exact H
             have Ny266 := Aside0.mk hy266
             clear hy266
             replace H := Option.bind_eq_some_iff.mp H
             obtain ⟨t269, A690, H⟩ := H
             replace H : (dialtonelaw05_ClockMatchesReference.l1 k2 a5 a6 true y258 x27_2 y266 (([a6, t269] : List Int)) 0 ((rd_T24 y258 x27_2).f0) ((rd_T24 y258 x27_2).f1)) = some r := H
             have A69 := Aside0.mk A690
             clear A690
             obtain ⟨y270, hy270⟩ : ∃ y_ : List Int, y_ = (([a6, t269] : List Int)) := ⟨_, rfl⟩
             replace H : (dialtonelaw05_ClockMatchesReference.l1 k2 a5 a6 true y258 x27_2 y266 y270 0 ((rd_T24 y258 x27_2).f0) ((rd_T24 y258 x27_2).f1)) = some r := by first | (rw [hy270]; with_reducible exact H) | (have H2_ := (Option.bind_some _ _).symm.trans H; rw [hy270]; with_reducible exact H2_) | (have H2_ := (Option.bind_some _ _).symm.trans H; with_reducible exact H2_) | with_reducible exact H | (rw [hy270]; exact H) | exact H
             have Ny270 := Aside0.mk hy270
             clear hy270
             have H' := Aside0.mk H
             clear H
             obtain ⟨Ao70, co70, eo70⟩ := Kd.N_slice HO_26.out
             subst eo70
             have p261 : 0 ≤ (x27_2 : Int) := of_decide_eq_true (by first | (with_reducible assumption) | assumption)
             have q261 : x27_2 < (y258.length : Int) := of_decide_eq_true (by first | (with_reducible assumption) | assumption)
             obtain ⟨ad261, A261_1, c261_1, e261, hx261_0, hx261_1, hl261_1, hi261_1⟩ := at_T24 (Kd.N_reads' HO_26.out).2.2 x27_2 p261 q261
             cases e261
             obtain ⟨ce261, hce261, hMe261, hcc261⟩ := Kd.N_get HO_26.out z24 x27_2 p261 (by first | exact q261 | exact of_decide_eq_true (by first | (with_reducible assumption) | assumption) | (have e_ := (Kd.N_reads' HO_26.out).1; omega))
             obtain ⟨ua261_1, uc261_1, rfl, ul261_1, ge261_1⟩ := k24_openF hMe261
             have hv261_1 := hcc261 1 _ rfl
             rw [add_field _ _ 1 (by omega)] at hv261_1
             replace hv261_1 := Option.some.inj (hv261_1.symm.trans hx261_1)
             injection hv261_1 with hva_ hvn_ hvc_
             rw [hva_] at ge261_1
             rw [hvc_] at ul261_1
             have HL261_1 := Aside0.mk (show Kd.V k50 50 _ w.heap.size _ _ ((rd_T24 y258 x27_2).f1) from Kd.V_mk ul261_1 ge261_1)
             clear hva_ hvn_ hvc_ ge261_1 ul261_1
             clear hcc261 hce261
             have HR261_1 := Aside0.mk hi261_1
             have HC261_1 := Aside0.mk hl261_1
             clear hi261_1 hl261_1
             replace p261 := eq_true p261
             replace q261 := eq_true q261
             try go_wp2_with (first | ((with_reducible refine gate_dst (N := 28) rfl ?_); refine box_event ?hg (N := 28) ?hd (cs := #[.int .i64 0, .slice none 0 0]) (t := 24) ?hr ?_; (case hd => rfl); (case hg => rfl); (case hr => first | (go_simp; done) | (go_simp; rfl)); intro gb262 hg w71 hbox hb; have n0_ := Aside0.mk (Kd.N_below (Kd.N_elderB (by (with_reducible repeat (first | apply Kd.N_alloc | apply Kd.N_drewN | apply Kd.N_drew)); exact HO_26.out) gb262 (Nat.le_of_eq hg.symm)) hb); have n1_ := Aside0.mk (Kd.V_below (Kd.V_elderB (by (with_reducible repeat (first | apply Kd.V_alloc | apply Kd.V_drewN | apply Kd.V_drew)); exact HL261_1.out) gb262 (Nat.le_of_eq hg.symm)) hb); have n2_ := Aside0.mk (blk_below (g := gb228) (o := .cells #[.int .i64 a0_0, .slice A0_1 l0_1.length c0_1] 24 (0, 0)) (by (with_reducible repeat (first | refine blk_drewN ?_ _ | refine blk_drew ?_ | refine blk_alloc ?_ _)); exact BK228.out) hb); have n3_ := Aside0.mk (blk_below (g := gb241) (o := .cells #[.int .i64 t238, .int .i64 t239] 32 (0, 0)) (by (with_reducible repeat (first | refine blk_drewN ?_ _ | refine blk_drew ?_ | refine blk_alloc ?_ _)); exact BK241.out) hb); have n4_ := Aside0.mk (blk_below (g := gb249) (o := .cells #[.int .i64 t246, .int .i64 t247] 32 (0, 0)) (by (with_reducible repeat (first | refine blk_drewN ?_ _ | refine blk_drew ?_ | refine blk_alloc ?_ _)); exact BK249.out) hb); have n5_ := Aside0.mk (Kd.C_below (by repeat (first | (with_reducible exact HR261_1.out) | (with_reducible refine Kd.C_alloc ?_ _) | (with_reducible refine Kd.C_drewN ?_ _) | (with_reducible refine Kd.C_drew ?_) | exact HR261_1.out)) hb); have n6_ := Aside0.mk (below_step (by repeat (first | (with_reducible first | exact HB.out | apply below_alloc | apply pw_below_drewN | apply below_drew1 | refine below_set ?_ GE228.out | refine below_set ?_ GE241.out | refine below_set ?_ GE249.out) | exact HB.out)) hb); have n7_ := Aside0.mk (hbox); have n8_ := Aside0.mk ((by rw [hg]; exact (below_size (by repeat (first | (with_reducible first | exact HB.out | apply below_alloc | apply pw_below_drewN | apply below_drew1 | refine below_set ?_ GE228.out | refine below_set ?_ GE241.out | refine below_set ?_ GE249.out) | exact HB.out))) : w.heap.size ≤ gb262)); have n9_ := Aside0.mk ((by rw [hg]; exact (below_size (by repeat (first | (with_reducible first | exact HB.out | apply below_alloc | apply pw_below_drewN | apply below_drew1 | refine below_set ?_ GE228.out | refine below_set ?_ GE241.out | refine below_set ?_ GE249.out) | exact HB.out))) : w.heap.size ≤ gb262)); have n10_ := Aside0.mk ((by rw [hg]; exact Nat.ne_of_lt (blk_lt (g := gb228) (o := .cells #[.int .i64 a0_0, .slice A0_1 l0_1.length c0_1] 24 (0, 0)) (by (with_reducible repeat (first | refine blk_drewN ?_ _ | refine blk_drew ?_ | refine blk_alloc ?_ _)); exact BK228.out)) : gb228 ≠ gb262)); have n11_ := Aside0.mk ((by rw [hg]; exact Nat.ne_of_gt (blk_lt (g := gb228) (o := .cells #[.int .i64 a0_0, .slice A0_1 l0_1.length c0_1] 24 (0, 0)) (by (with_reducible repeat (first | refine blk_drewN ?_ _ | refine blk_drew ?_ | refine blk_alloc ?_ _)); exact BK228.out)) : gb262 ≠ gb228)); have n12_ := Aside0.mk ((by rw [hg]; exact Nat.ne_of_lt (blk_lt (g := gb241) (o := .cells #[.int .i64 t238, .int .i64 t239] 32 (0, 0)) (by (with_reducible repeat (first | refine blk_drewN ?_ _ | refine blk_drew ?_ | refine blk_alloc ?_ _)); exact BK241.out)) : gb241 ≠ gb262)); have n13_ := Aside0.mk ((by rw [hg]; exact Nat.ne_of_gt (blk_lt (g := gb241) (o := .cells #[.int .i64 t238, .int .i64 t239] 32 (0, 0)) (by (with_reducible repeat (first | refine blk_drewN ?_ _ | refine blk_drew ?_ | refine blk_alloc ?_ _)); exact BK241.out)) : gb262 ≠ gb241)); have n14_ := Aside0.mk ((by rw [hg]; exact Nat.ne_of_lt (blk_lt (g := gb249) (o := .cells #[.int .i64 t246, .int .i64 t247] 32 (0, 0)) (by (with_reducible repeat (first | refine blk_drewN ?_ _ | refine blk_drew ?_ | refine blk_alloc ?_ _)); exact BK249.out)) : gb249 ≠ gb262)); have n15_ := Aside0.mk ((by rw [hg]; exact Nat.ne_of_gt (blk_lt (g := gb249) (o := .cells #[.int .i64 t246, .int .i64 t247] 32 (0, 0)) (by (with_reducible repeat (first | refine blk_drewN ?_ _ | refine blk_drew ?_ | refine blk_alloc ?_ _)); exact BK249.out)) : gb262 ≠ gb249)); clear HO_26; clear HL261_1; clear BK228; clear BK241; clear BK249; clear HR261_1; clear HB; have HO_26 := n0_; have HL261_1 := n1_; have BK228 := n2_; have BK241 := n3_; have BK249 := n4_; have HR261_1 := n5_; have HB := n6_; have BK262 := n7_; have GW262 := n8_; have GE262 := n9_; have NB228_262 := n10_; have NB262_228 := n11_; have NB241_262 := n12_; have NB262_241 := n13_; have NB249_262 := n14_; have NB262_249 := n15_; clear n0_ n1_ n2_ n3_ n4_ n5_ n6_ n7_ n8_ n9_ n10_ n11_ n12_ n13_ n14_ n15_; clear hb hbox hg; have hnb72 := NB262_228.out; have hnc72 := NB228_262.out; have hnb73 := NB262_241.out; have hnc73 := NB241_262.out; have hnb74 := NB262_249.out; have hnc74 := NB249_262.out; have hcz75_0 : w71.cell? ⟨gb262, 0, none⟩ = some (.int .i64 0) := (blk_cell BK262.out 0).trans rfl; have hcz75_1 : w71.cell? ⟨gb262, 1, none⟩ = some (.slice none 0 0) := (blk_cell BK262.out 1).trans rfl; have hfz75_0 := blk_frozen BK262.out 0; have hfz75_1 := blk_frozen BK262.out 1))
             have n0_ : Aside0 (Kd.N k24 24 ((w71.setCell ⟨gb262, 0, none⟩ (.int .i64 ((rd_T24 y258 x27_2).f0))).setCell ⟨gb262, 1, none⟩ (.slice A261_1 ((rd_T24 y258 x27_2).f1).length c261_1)) w.heap.size (fun k_ => k_ ≠ gb228 ∧ k_ ≠ gb241 ∧ k_ ≠ gb249 ∧ k_ ≠ gb262) (.slice (some ad261) y258.length co70) y258) := ⟨by (with_reducible repeat (first | apply Kd.N_alloc | apply Kd.N_drewN | apply Kd.N_drew)); exact Kd.N_mono (Kd.N_far (p := ⟨gb262, 1, none⟩) (Kd.N_far (p := ⟨gb262, 0, none⟩) (Kd.N_mono HO_26.out (fun k_ hk => (⟨hk, hk.2⟩ : _ ∧ k_ ≠ gb262))) (fun _ hk => hk.2) (.int .i64 ((rd_T24 y258 x27_2).f0))) (fun _ hk => hk.2) (.slice A261_1 ((rd_T24 y258 x27_2).f1).length c261_1)) (fun _ hk => ⟨hk.1.1.1, ⟨hk.1.1.2.1, ⟨hk.1.1.2.2, hk.1.2⟩⟩⟩)⟩
             have n1_ : Aside0 (Kd.V k50 50 ((w71.setCell ⟨gb262, 0, none⟩ (.int .i64 ((rd_T24 y258 x27_2).f0))).setCell ⟨gb262, 1, none⟩ (.slice A261_1 ((rd_T24 y258 x27_2).f1).length c261_1)) w.heap.size (fun k_ => some k_ ≠ (.slice (some ad261) y258.length co70 : Value).ownBlock ∧ k_ ≠ gb228 ∧ k_ ≠ gb241 ∧ k_ ≠ gb249 ∧ k_ ≠ gb262) (.slice A261_1 ((rd_T24 y258 x27_2).f1).length c261_1) ((rd_T24 y258 x27_2).f1)) := ⟨by (with_reducible repeat (first | apply Kd.V_alloc | apply Kd.V_drewN | apply Kd.V_drew)); exact Kd.V_mono (Kd.V_far (p := ⟨gb262, 1, none⟩) (Kd.V_far (p := ⟨gb262, 0, none⟩) (Kd.V_mono HL261_1.out (fun k_ hk => (⟨hk, hk.2⟩ : _ ∧ k_ ≠ gb262))) (fun _ hk => hk.2) (.int .i64 ((rd_T24 y258 x27_2).f0))) (fun _ hk => hk.2) (.slice A261_1 ((rd_T24 y258 x27_2).f1).length c261_1)) (fun _ hk => ⟨hk.1.1.2, ⟨hk.1.1.1.1, ⟨hk.1.1.1.2.1, ⟨hk.1.1.1.2.2, hk.1.2⟩⟩⟩⟩)⟩
             have n2_ : Aside0 (((w71.setCell ⟨gb262, 0, none⟩ (.int .i64 ((rd_T24 y258 x27_2).f0))).setCell ⟨gb262, 1, none⟩ (.slice A261_1 ((rd_T24 y258 x27_2).f1).length c261_1)).heap[gb228]? = some (.cells #[.int .i64 a0_0, .slice A0_1 l0_1.length c0_1] 24 (0, 0))) := ⟨by (with_reducible repeat (first | refine blk_drewN ?_ _ | refine blk_drew ?_ | refine blk_alloc ?_ _)); refine blk_far ?_ NB228_262.out _; (with_reducible repeat (first | refine blk_drewN ?_ _ | refine blk_drew ?_ | refine blk_alloc ?_ _)); refine blk_far ?_ NB228_262.out _; (with_reducible repeat (first | refine blk_drewN ?_ _ | refine blk_drew ?_ | refine blk_alloc ?_ _)); exact BK228.out⟩
             have n3_ : Aside0 (((w71.setCell ⟨gb262, 0, none⟩ (.int .i64 ((rd_T24 y258 x27_2).f0))).setCell ⟨gb262, 1, none⟩ (.slice A261_1 ((rd_T24 y258 x27_2).f1).length c261_1)).heap[gb241]? = some (.cells #[.int .i64 t238, .int .i64 t239] 32 (0, 0))) := ⟨by (with_reducible repeat (first | refine blk_drewN ?_ _ | refine blk_drew ?_ | refine blk_alloc ?_ _)); refine blk_far ?_ NB241_262.out _; (with_reducible repeat (first | refine blk_drewN ?_ _ | refine blk_drew ?_ | refine blk_alloc ?_ _)); refine blk_far ?_ NB241_262.out _; (with_reducible repeat (first | refine blk_drewN ?_ _ | refine blk_drew ?_ | refine blk_alloc ?_ _)); exact BK241.out⟩
             have n4_ : Aside0 (((w71.setCell ⟨gb262, 0, none⟩ (.int .i64 ((rd_T24 y258 x27_2).f0))).setCell ⟨gb262, 1, none⟩ (.slice A261_1 ((rd_T24 y258 x27_2).f1).length c261_1)).heap[gb249]? = some (.cells #[.int .i64 t246, .int .i64 t247] 32 (0, 0))) := ⟨by (with_reducible repeat (first | refine blk_drewN ?_ _ | refine blk_drew ?_ | refine blk_alloc ?_ _)); refine blk_far ?_ NB249_262.out _; (with_reducible repeat (first | refine blk_drewN ?_ _ | refine blk_drew ?_ | refine blk_alloc ?_ _)); refine blk_far ?_ NB249_262.out _; (with_reducible repeat (first | refine blk_drewN ?_ _ | refine blk_drew ?_ | refine blk_alloc ?_ _)); exact BK249.out⟩
             have n5_ : Aside0 (((w71.setCell ⟨gb262, 0, none⟩ (.int .i64 ((rd_T24 y258 x27_2).f0))).setCell ⟨gb262, 1, none⟩ (.slice A261_1 ((rd_T24 y258 x27_2).f1).length c261_1)).heap[gb262]? = some (.cells #[.int .i64 ((rd_T24 y258 x27_2).f0), .slice A261_1 ((rd_T24 y258 x27_2).f1).length c261_1] 24 (0, 0))) := ⟨by (with_reducible repeat (first | refine blk_drewN ?_ _ | refine blk_drew ?_ | refine blk_alloc ?_ _)); refine blk_put (cs := #[.int .i64 ((rd_T24 y258 x27_2).f0), .slice none 0 0]) ?_ 1 _ rfl; (with_reducible repeat (first | refine blk_drewN ?_ _ | refine blk_drew ?_ | refine blk_alloc ?_ _)); refine blk_put (cs := #[.int .i64 0, .slice none 0 0]) ?_ 0 _ rfl; (with_reducible repeat (first | refine blk_drewN ?_ _ | refine blk_drew ?_ | refine blk_alloc ?_ _)); exact BK262.out⟩
             have n6_ : Aside0 (Below w.heap.size w ((w71.setCell ⟨gb262, 0, none⟩ (.int .i64 ((rd_T24 y258 x27_2).f0))).setCell ⟨gb262, 1, none⟩ (.slice A261_1 ((rd_T24 y258 x27_2).f1).length c261_1))) := ⟨by repeat (first | (with_reducible first | exact HB.out | apply below_alloc | apply pw_below_drewN | apply below_drew1 | refine below_set ?_ GE228.out | refine below_set ?_ GE241.out | refine below_set ?_ GE249.out | refine below_set ?_ GE262.out) | exact HB.out)⟩
             (try clear HO_26)
             (try clear HL261_1)
             (try clear BK228)
             (try clear BK241)
             (try clear BK249)
             (try clear BK262)
             (try clear HB)
             generalize ((w71.setCell ⟨gb262, 0, none⟩ (.int .i64 ((rd_T24 y258 x27_2).f0))).setCell ⟨gb262, 1, none⟩ (.slice A261_1 ((rd_T24 y258 x27_2).f1).length c261_1)) = w76 at n0_ n1_ n2_ n3_ n4_ n5_ n6_ ⊢
             have HO_26 := n0_
             have HL261_1 := n1_
             have BK228 := n2_
             have BK241 := n3_
             have BK249 := n4_
             have BK262 := n5_
             have HB := n6_
             clear n0_ n1_ n2_ n3_ n4_ n5_ n6_
             have n0_ := Aside0.mk (Kd.N_drew HO_26.out)
             have n1_ := Aside0.mk (Kd.V_drew HL261_1.out)
             have n2_ := Aside0.mk (blk_drew BK228.out)
             have n3_ := Aside0.mk (blk_drew BK241.out)
             have n4_ := Aside0.mk (blk_drew BK249.out)
             have n5_ := Aside0.mk (blk_drew BK262.out)
             have n6_ := Aside0.mk (below_drew1 HB.out)
             clear HO_26
             clear HL261_1
             clear BK228
             clear BK241
             clear BK249
             clear BK262
             clear HB
             have HO_26 := n0_
             have HL261_1 := n1_
             have BK228 := n2_
             have BK241 := n3_
             have BK249 := n4_
             have BK262 := n5_
             have HB := n6_
             clear n0_ n1_ n2_ n3_ n4_ n5_ n6_
             refine start_ (n := 5) (S := fun w' => w'.cell? ⟨gb262, 0, none⟩ = some (.int .i64 ((rd_T24 y258 x27_2).f0)) ∧ w'.cell? ⟨gb262, 1, none⟩ = some (.slice A261_1 ((rd_T24 y258 x27_2).f1).length c261_1)) (ds := []) #[false, false, false, false, false] (by kernel_rfl) rfl rfl ⟨(blk_cell BK262.out 0).trans rfl, (blk_cell BK262.out 1).trans rfl⟩ (fun hHeld => ?_)
             generalize w76.drew = w77 at HO_26 HL261_1 BK228 BK241 BK249 BK262 HB hHeld ⊢
             refine take_ (i := 0) (N := some 111) (v := ?_) (a' := ?_) #[true, false, false, false, false] rfl rfl (by kernel_rfl) (fun _ _ _ h => h) (Or.inl ⟨by rfl, ?_⟩) hHeld ?_ ?_
             rotate_left
             ·
              rintro w' ⟨s0, s1⟩
              go_simp
              with_reducible rfl
             rotate_left
             ·
              simp only [Act.put, List.setIfInBounds_toArray, List.set_cons_zero, List.set_cons_succ, i64_w, i32_w]
              rfl
             refine take_ (i := 2) (N := some 113) (v := ?_) (a' := ?_) #[true, false, true, false, false] rfl rfl (by kernel_rfl) (fun _ _ _ h => h) (Or.inl ⟨by rfl, ?_⟩) hHeld ?_ ?_
             rotate_left
             ·
              rintro w' ⟨s0, s1⟩
              go_simp
              with_reducible rfl
             rotate_left
             ·
              simp only [Act.put, List.setIfInBounds_toArray, List.set_cons_zero, List.set_cons_succ, i64_w, i32_w]
              rfl
             refine one_ (i := 1) (N := some 112) #[true, true, true, false, false] rfl rfl (by kernel_rfl) (by decide) (fun K hK => ?_)
             refine goes_ Try.func17 (by kernel_rfl) rfl #[.agg #[.int .i64 ((rd_T24 y258 x27_2).f0), .slice A261_1 ((rd_T24 y258 x27_2).f1).length c261_1]] (by rfl) rfl rfl (by (try simp only [List.map_toArray, List.map_cons, List.map_nil]); first | done | rfl | (simp only [List.length_drop, List.length_take]; rfl)) ?_
             with_reducible refine (clock_Valid.calls k2 ((rd_T24 y258 x27_2).f0) _ _ ((rd_T24 y258 x27_2).f1) t263 _ ?side1 ?side2 A65.out).mono ?_
             (case side1 => repeat (first | exact ((Kd.V_reads' (by (with_reducible repeat (first | apply Kd.V_alloc | apply Kd.V_drewN | apply Kd.V_drew)); exact HL261_1.out)).2.2) | (with_reducible refine Kd.C_alloc ?_ _) | (with_reducible refine Kd.C_drewN ?_ _) | (with_reducible refine Kd.C_drew ?_)))
             (case side2 => exact HC261_1.out)
             rintro e w78 ⟨rfl, hb⟩
             refine ⟨_, rfl, ?_⟩
             have n0_ := Aside0.mk (Kd.N_below (by (with_reducible repeat (first | apply Kd.N_alloc | apply Kd.N_drewN | apply Kd.N_drew)); exact HO_26.out) hb)
             have n1_ := Aside0.mk (Kd.V_below (by (with_reducible repeat (first | apply Kd.V_alloc | apply Kd.V_drewN | apply Kd.V_drew)); exact HL261_1.out) hb)
             have n2_ := Aside0.mk (blk_below (g := gb228) (o := .cells #[.int .i64 a0_0, .slice A0_1 l0_1.length c0_1] 24 (0, 0)) (by (with_reducible repeat (first | refine blk_drewN ?_ _ | refine blk_drew ?_ | refine blk_alloc ?_ _)); exact BK228.out) hb)
             have n3_ := Aside0.mk (blk_below (g := gb241) (o := .cells #[.int .i64 t238, .int .i64 t239] 32 (0, 0)) (by (with_reducible repeat (first | refine blk_drewN ?_ _ | refine blk_drew ?_ | refine blk_alloc ?_ _)); exact BK241.out) hb)
             have n4_ := Aside0.mk (blk_below (g := gb249) (o := .cells #[.int .i64 t246, .int .i64 t247] 32 (0, 0)) (by (with_reducible repeat (first | refine blk_drewN ?_ _ | refine blk_drew ?_ | refine blk_alloc ?_ _)); exact BK249.out) hb)
             have n5_ := Aside0.mk (blk_below (g := gb262) (o := .cells #[.int .i64 ((rd_T24 y258 x27_2).f0), .slice A261_1 ((rd_T24 y258 x27_2).f1).length c261_1] 24 (0, 0)) (by (with_reducible repeat (first | refine blk_drewN ?_ _ | refine blk_drew ?_ | refine blk_alloc ?_ _)); exact BK262.out) hb)
             have n6_ := Aside0.mk (below_step (by repeat (first | (with_reducible first | exact HB.out | apply below_alloc | apply pw_below_drewN | apply below_drew1 | refine below_set ?_ GE228.out | refine below_set ?_ GE241.out | refine below_set ?_ GE249.out | refine below_set ?_ GE262.out) | exact HB.out)) hb)
             clear HO_26
             clear HL261_1
             clear BK228
             clear BK241
             clear BK249
             clear BK262
             clear HB
             have HO_26 := n0_
             have HL261_1 := n1_
             have BK228 := n2_
             have BK241 := n3_
             have BK249 := n4_
             have BK262 := n5_
             have HB := n6_
             clear n0_ n1_ n2_ n3_ n4_ n5_ n6_
             (try clear hb)
             (try clear hb2)
             (try clear hk)
             (try clear hi)
             refine hK.out _ _ ⟨(blk_cell BK262.out 0).trans rfl, (blk_cell BK262.out 1).trans rfl⟩ (fun hHeld => ?_)
             clear hK K
             refine norm_ (a' := ?_) ?_ ?_
             rotate_left
             ·
              show Act.put _ (some 112) _ = _
              simp only [Act.put, List.setIfInBounds_toArray, List.set_cons_zero, List.set_cons_succ, i64_w, i32_w]
              rfl
             refine one_ (i := 3) (N := some 114) #[true, true, true, true, false] rfl rfl (by kernel_rfl) (by decide) (fun K hK => ?_)
             refine goes_ Try.func18 (by kernel_rfl) rfl #[.agg #[.int .i64 ((rd_T24 y258 x27_2).f0), .slice A261_1 ((rd_T24 y258 x27_2).f1).length c261_1]] (by rfl) rfl rfl (by (try simp only [List.map_toArray, List.map_cons, List.map_nil]); first | done | rfl | (simp only [List.length_drop, List.length_take]; rfl)) ?_
             with_reducible refine (dialtoneref05_Valid.calls k2 ((rd_T24 y258 x27_2).f0) _ _ ((rd_T24 y258 x27_2).f1) t264 _ ?side1 ?side2 A66.out).mono ?_
             (case side1 => repeat (first | exact ((Kd.V_reads' (by (with_reducible repeat (first | apply Kd.V_alloc | apply Kd.V_drewN | apply Kd.V_drew)); exact HL261_1.out)).2.2) | (with_reducible refine Kd.C_alloc ?_ _) | (with_reducible refine Kd.C_drewN ?_ _) | (with_reducible refine Kd.C_drew ?_)))
             (case side2 => exact HC261_1.out)
             rintro e w79 ⟨rfl, hb⟩
             refine ⟨_, rfl, ?_⟩
             have n0_ := Aside0.mk (Kd.N_below (by (with_reducible repeat (first | apply Kd.N_alloc | apply Kd.N_drewN | apply Kd.N_drew)); exact HO_26.out) hb)
             have n1_ := Aside0.mk (Kd.V_below (by (with_reducible repeat (first | apply Kd.V_alloc | apply Kd.V_drewN | apply Kd.V_drew)); exact HL261_1.out) hb)
             have n2_ := Aside0.mk (blk_below (g := gb228) (o := .cells #[.int .i64 a0_0, .slice A0_1 l0_1.length c0_1] 24 (0, 0)) (by (with_reducible repeat (first | refine blk_drewN ?_ _ | refine blk_drew ?_ | refine blk_alloc ?_ _)); exact BK228.out) hb)
             have n3_ := Aside0.mk (blk_below (g := gb241) (o := .cells #[.int .i64 t238, .int .i64 t239] 32 (0, 0)) (by (with_reducible repeat (first | refine blk_drewN ?_ _ | refine blk_drew ?_ | refine blk_alloc ?_ _)); exact BK241.out) hb)
             have n4_ := Aside0.mk (blk_below (g := gb249) (o := .cells #[.int .i64 t246, .int .i64 t247] 32 (0, 0)) (by (with_reducible repeat (first | refine blk_drewN ?_ _ | refine blk_drew ?_ | refine blk_alloc ?_ _)); exact BK249.out) hb)
             have n5_ := Aside0.mk (blk_below (g := gb262) (o := .cells #[.int .i64 ((rd_T24 y258 x27_2).f0), .slice A261_1 ((rd_T24 y258 x27_2).f1).length c261_1] 24 (0, 0)) (by (with_reducible repeat (first | refine blk_drewN ?_ _ | refine blk_drew ?_ | refine blk_alloc ?_ _)); exact BK262.out) hb)
             have n6_ := Aside0.mk (below_step (by repeat (first | (with_reducible first | exact HB.out | apply below_alloc | apply pw_below_drewN | apply below_drew1 | refine below_set ?_ GE228.out | refine below_set ?_ GE241.out | refine below_set ?_ GE249.out | refine below_set ?_ GE262.out) | exact HB.out)) hb)
             clear HO_26
             clear HL261_1
             clear BK228
             clear BK241
             clear BK249
             clear BK262
             clear HB
             have HO_26 := n0_
             have HL261_1 := n1_
             have BK228 := n2_
             have BK241 := n3_
             have BK249 := n4_
             have BK262 := n5_
             have HB := n6_
             clear n0_ n1_ n2_ n3_ n4_ n5_ n6_
             (try clear hb)
             (try clear hb2)
             (try clear hk)
             (try clear hi)
             refine hK.out _ _ ⟨(blk_cell BK262.out 0).trans rfl, (blk_cell BK262.out 1).trans rfl⟩ (fun hHeld => ?_)
             clear hK K
             refine norm_ (a' := ?_) ?_ ?_
             rotate_left
             ·
              show Act.put _ (some 114) _ = _
              simp only [Act.put, List.setIfInBounds_toArray, List.set_cons_zero, List.set_cons_succ, i64_w, i32_w]
              rfl
             refine pure_ (i := 4) (N := some 115) (v := ?_) (a' := ?_) #[true, true, true, true, true] rfl rfl (by kernel_rfl) (fun _ _ _ h => h) (Or.inl ⟨by rfl, ?_⟩) ?_ ?_
             rotate_left
             ·
              intro w'
              go_simp
              with_reducible rfl
             rotate_left
             ·
              simp only [Act.put, List.setIfInBounds_toArray, List.set_cons_zero, List.set_cons_succ, i64_w, i32_w]
              rfl
             refine done_ (by kernel_rfl) ?_
             try go_wp2_with (first | ((with_reducible refine gate_callee (f := 19) rfl ?_); refine goesL_ (some 118) rfl rfl Try.func19 (by kernel_rfl) rfl #[.int .i64 a5, .int .i64 5000] rfl (by (try simp only [List.map_toArray, List.map_cons, List.map_nil]); first | done | rfl | (simp only [List.length_drop, List.length_take]; rfl)) ?_; (with_reducible refine (dialtonelaw05_pick.calls a5 5000 t265 _ A68.out).mono ?_); rintro e w80 ⟨rfl, hb⟩; refine ⟨_, rfl, ?_⟩; have n0_ := Aside0.mk (Kd.N_below (by (with_reducible repeat (first | apply Kd.N_alloc | apply Kd.N_drewN | apply Kd.N_drew)); exact HO_26.out) hb); have n1_ := Aside0.mk (Kd.V_below (by (with_reducible repeat (first | apply Kd.V_alloc | apply Kd.V_drewN | apply Kd.V_drew)); exact HL261_1.out) hb); have n2_ := Aside0.mk (blk_below (g := gb228) (o := .cells #[.int .i64 a0_0, .slice A0_1 l0_1.length c0_1] 24 (0, 0)) (by (with_reducible repeat (first | refine blk_drewN ?_ _ | refine blk_drew ?_ | refine blk_alloc ?_ _)); exact BK228.out) hb); have n3_ := Aside0.mk (blk_below (g := gb241) (o := .cells #[.int .i64 t238, .int .i64 t239] 32 (0, 0)) (by (with_reducible repeat (first | refine blk_drewN ?_ _ | refine blk_drew ?_ | refine blk_alloc ?_ _)); exact BK241.out) hb); have n4_ := Aside0.mk (blk_below (g := gb249) (o := .cells #[.int .i64 t246, .int .i64 t247] 32 (0, 0)) (by (with_reducible repeat (first | refine blk_drewN ?_ _ | refine blk_drew ?_ | refine blk_alloc ?_ _)); exact BK249.out) hb); have n5_ := Aside0.mk (blk_below (g := gb262) (o := .cells #[.int .i64 ((rd_T24 y258 x27_2).f0), .slice A261_1 ((rd_T24 y258 x27_2).f1).length c261_1] 24 (0, 0)) (by (with_reducible repeat (first | refine blk_drewN ?_ _ | refine blk_drew ?_ | refine blk_alloc ?_ _)); exact BK262.out) hb); have n6_ := Aside0.mk (below_step (by repeat (first | (with_reducible first | exact HB.out | apply below_alloc | apply pw_below_drewN | apply below_drew1 | refine below_set ?_ GE228.out | refine below_set ?_ GE241.out | refine below_set ?_ GE249.out | refine below_set ?_ GE262.out) | exact HB.out)) hb); clear HO_26; clear HL261_1; clear BK228; clear BK241; clear BK249; clear BK262; clear HB; have HO_26 := n0_; have HL261_1 := n1_; have BK228 := n2_; have BK241 := n3_; have BK249 := n4_; have BK262 := n5_; have HB := n6_; clear n0_ n1_ n2_ n3_ n4_ n5_ n6_; (try clear hb); (try clear hb2); (try clear hk); (try clear hi)) | ((with_reducible refine gate_dst (N := 119) rfl ?_); refine Kd.R_lit (Kd.int .i64) _ 3 ?hg (N := 119) ?hd (xs := ([a5, t265] : List Int)) (inner := [.int .i64 a5, .int .i64 t265]) (ok := fun _ => True) (okp := fun _ => True) ?hr ?hp (fun _ hk => hk) trivial (Below.refl _ _) (Nat.le_refl _) (by simp) ?_; (case hd => rfl); (case hg => rfl); (case hr => first | (go_simp; done) | (go_simp; rfl)); (case hp => exact (Reps.one (show Kd.M (Kd.int .i64) _ _ _ a5 [.int .i64 a5] from rfl) (Reps.one (show Kd.M (Kd.int .i64) _ _ _ t265 [.int .i64 t265] from rfl) (Reps.none _ _)))); intro v267 w81 ho82 hb hg_ hnew_; clear hg_ hnew_; (first | rw [← Ny266.out] at ho82 | (simp only [Int.reduceToNat] at ho82; rw [← Ny266.out] at ho82)); have n0_ := Aside0.mk (Kd.N_elder' (by (with_reducible repeat (first | apply Kd.N_alloc | apply Kd.N_drewN | apply Kd.N_drew)); exact HO_26.out) (Kd.R_base ho82) hb); have n1_ := Aside0.mk (Kd.V_elder' (by (with_reducible repeat (first | apply Kd.V_alloc | apply Kd.V_drewN | apply Kd.V_drew)); exact HL261_1.out) (Kd.R_base ho82) hb); have n2_ := Aside0.mk (Kd.R_lower ho82 (below_size (by repeat (first | (with_reducible first | exact HB.out | apply below_alloc | apply pw_below_drewN | apply below_drew1 | refine below_set ?_ GE228.out | refine below_set ?_ GE241.out | refine below_set ?_ GE249.out | refine below_set ?_ GE262.out) | exact HB.out)))); have n3_ := Aside0.mk (blk_below (g := gb228) (o := .cells #[.int .i64 a0_0, .slice A0_1 l0_1.length c0_1] 24 (0, 0)) (by (with_reducible repeat (first | refine blk_drewN ?_ _ | refine blk_drew ?_ | refine blk_alloc ?_ _)); exact BK228.out) hb); have n4_ := Aside0.mk (blk_below (g := gb241) (o := .cells #[.int .i64 t238, .int .i64 t239] 32 (0, 0)) (by (with_reducible repeat (first | refine blk_drewN ?_ _ | refine blk_drew ?_ | refine blk_alloc ?_ _)); exact BK241.out) hb); have n5_ := Aside0.mk (blk_below (g := gb249) (o := .cells #[.int .i64 t246, .int .i64 t247] 32 (0, 0)) (by (with_reducible repeat (first | refine blk_drewN ?_ _ | refine blk_drew ?_ | refine blk_alloc ?_ _)); exact BK249.out) hb); have n6_ := Aside0.mk (blk_below (g := gb262) (o := .cells #[.int .i64 ((rd_T24 y258 x27_2).f0), .slice A261_1 ((rd_T24 y258 x27_2).f1).length c261_1] 24 (0, 0)) (by (with_reducible repeat (first | refine blk_drewN ?_ _ | refine blk_drew ?_ | refine blk_alloc ?_ _)); exact BK262.out) hb); have n7_ := Aside0.mk (below_step (by repeat (first | (with_reducible first | exact HB.out | apply below_alloc | apply pw_below_drewN | apply below_drew1 | refine below_set ?_ GE228.out | refine below_set ?_ GE241.out | refine below_set ?_ GE249.out | refine below_set ?_ GE262.out) | exact HB.out)) hb); clear HO_26; clear HL261_1; clear BK228; clear BK241; clear BK249; clear BK262; clear HB; have HO_26 := n0_; have HL261_1 := n1_; have HO268 := n2_; have BK228 := n3_; have BK241 := n4_; have BK249 := n5_; have BK262 := n6_; have HB := n7_; clear n0_ n1_ n2_ n3_ n4_ n5_ n6_ n7_; clear hb ho82) | ((with_reducible refine gate_callee (f := 19) rfl ?_); refine goesL_ (some 122) rfl rfl Try.func19 (by kernel_rfl) rfl #[.int .i64 a6, .int .i64 5000] rfl (by (try simp only [List.map_toArray, List.map_cons, List.map_nil]); first | done | rfl | (simp only [List.length_drop, List.length_take]; rfl)) ?_; (with_reducible refine (dialtonelaw05_pick.calls a6 5000 t269 _ A69.out).mono ?_); rintro e w83 ⟨rfl, hb⟩; refine ⟨_, rfl, ?_⟩; have n0_ := Aside0.mk (Kd.N_below (by (with_reducible repeat (first | apply Kd.N_alloc | apply Kd.N_drewN | apply Kd.N_drew)); exact HO_26.out) hb); have n1_ := Aside0.mk (Kd.V_below (by (with_reducible repeat (first | apply Kd.V_alloc | apply Kd.V_drewN | apply Kd.V_drew)); exact HL261_1.out) hb); have n2_ := Aside0.mk (Kd.R_below (by (with_reducible repeat (first | apply Kd.R_alloc | apply Kd.R_drewN | apply Kd.R_drew)); exact HO268.out) hb); have n3_ := Aside0.mk (blk_below (g := gb228) (o := .cells #[.int .i64 a0_0, .slice A0_1 l0_1.length c0_1] 24 (0, 0)) (by (with_reducible repeat (first | refine blk_drewN ?_ _ | refine blk_drew ?_ | refine blk_alloc ?_ _)); exact BK228.out) hb); have n4_ := Aside0.mk (blk_below (g := gb241) (o := .cells #[.int .i64 t238, .int .i64 t239] 32 (0, 0)) (by (with_reducible repeat (first | refine blk_drewN ?_ _ | refine blk_drew ?_ | refine blk_alloc ?_ _)); exact BK241.out) hb); have n5_ := Aside0.mk (blk_below (g := gb249) (o := .cells #[.int .i64 t246, .int .i64 t247] 32 (0, 0)) (by (with_reducible repeat (first | refine blk_drewN ?_ _ | refine blk_drew ?_ | refine blk_alloc ?_ _)); exact BK249.out) hb); have n6_ := Aside0.mk (blk_below (g := gb262) (o := .cells #[.int .i64 ((rd_T24 y258 x27_2).f0), .slice A261_1 ((rd_T24 y258 x27_2).f1).length c261_1] 24 (0, 0)) (by (with_reducible repeat (first | refine blk_drewN ?_ _ | refine blk_drew ?_ | refine blk_alloc ?_ _)); exact BK262.out) hb); have n7_ := Aside0.mk (below_step (by repeat (first | (with_reducible first | exact HB.out | apply below_alloc | apply pw_below_drewN | apply below_drew1 | refine below_set ?_ GE228.out | refine below_set ?_ GE241.out | refine below_set ?_ GE249.out | refine below_set ?_ GE262.out) | exact HB.out)) hb); clear HO_26; clear HL261_1; clear HO268; clear BK228; clear BK241; clear BK249; clear BK262; clear HB; have HO_26 := n0_; have HL261_1 := n1_; have HO268 := n2_; have BK228 := n3_; have BK241 := n4_; have BK249 := n5_; have BK262 := n6_; have HB := n7_; clear n0_ n1_ n2_ n3_ n4_ n5_ n6_ n7_; (try clear hb); (try clear hb2); (try clear hk); (try clear hi)) | ((with_reducible refine gate_dst (N := 123) rfl ?_); refine Kd.R_lit (Kd.int .i64) _ 3 ?hg (N := 123) ?hd (xs := ([a6, t269] : List Int)) (inner := [.int .i64 a6, .int .i64 t269]) (ok := fun _ => True) (okp := fun _ => True) ?hr ?hp (fun _ hk => hk) trivial (Below.refl _ _) (Nat.le_refl _) (by simp) ?_; (case hd => rfl); (case hg => rfl); (case hr => first | (go_simp; done) | (go_simp; rfl)); (case hp => exact (Reps.one (show Kd.M (Kd.int .i64) _ _ _ a6 [.int .i64 a6] from rfl) (Reps.one (show Kd.M (Kd.int .i64) _ _ _ t269 [.int .i64 t269] from rfl) (Reps.none _ _)))); intro v271 w84 ho85 hb hg_ hnew_; clear hg_ hnew_; (first | rw [← Ny270.out] at ho85 | (simp only [Int.reduceToNat] at ho85; rw [← Ny270.out] at ho85)); have n0_ := Aside0.mk (Kd.N_elder' (by (with_reducible repeat (first | apply Kd.N_alloc | apply Kd.N_drewN | apply Kd.N_drew)); exact HO_26.out) (Kd.R_base ho85) hb); have n1_ := Aside0.mk (Kd.V_elder' (by (with_reducible repeat (first | apply Kd.V_alloc | apply Kd.V_drewN | apply Kd.V_drew)); exact HL261_1.out) (Kd.R_base ho85) hb); have n2_ := Aside0.mk (Kd.R_elder' (by (with_reducible repeat (first | apply Kd.R_alloc | apply Kd.R_drewN | apply Kd.R_drew)); exact HO268.out) (Kd.R_base ho85) hb); have n3_ := Aside0.mk (Kd.R_lower (Kd.R_new' ho85 (Kd.R_lt (by (with_reducible repeat (first | apply Kd.R_alloc | apply Kd.R_drewN | apply Kd.R_drew)); exact HO268.out))) (below_size (by repeat (first | (with_reducible first | exact HB.out | apply below_alloc | apply pw_below_drewN | apply below_drew1 | refine below_set ?_ GE228.out | refine below_set ?_ GE241.out | refine below_set ?_ GE249.out | refine below_set ?_ GE262.out) | exact HB.out)))); have n4_ := Aside0.mk (blk_below (g := gb228) (o := .cells #[.int .i64 a0_0, .slice A0_1 l0_1.length c0_1] 24 (0, 0)) (by (with_reducible repeat (first | refine blk_drewN ?_ _ | refine blk_drew ?_ | refine blk_alloc ?_ _)); exact BK228.out) hb); have n5_ := Aside0.mk (blk_below (g := gb241) (o := .cells #[.int .i64 t238, .int .i64 t239] 32 (0, 0)) (by (with_reducible repeat (first | refine blk_drewN ?_ _ | refine blk_drew ?_ | refine blk_alloc ?_ _)); exact BK241.out) hb); have n6_ := Aside0.mk (blk_below (g := gb249) (o := .cells #[.int .i64 t246, .int .i64 t247] 32 (0, 0)) (by (with_reducible repeat (first | refine blk_drewN ?_ _ | refine blk_drew ?_ | refine blk_alloc ?_ _)); exact BK249.out) hb); have n7_ := Aside0.mk (blk_below (g := gb262) (o := .cells #[.int .i64 ((rd_T24 y258 x27_2).f0), .slice A261_1 ((rd_T24 y258 x27_2).f1).length c261_1] 24 (0, 0)) (by (with_reducible repeat (first | refine blk_drewN ?_ _ | refine blk_drew ?_ | refine blk_alloc ?_ _)); exact BK262.out) hb); have n8_ := Aside0.mk (below_step (by repeat (first | (with_reducible first | exact HB.out | apply below_alloc | apply pw_below_drewN | apply below_drew1 | refine below_set ?_ GE228.out | refine below_set ?_ GE241.out | refine below_set ?_ GE249.out | refine below_set ?_ GE262.out) | exact HB.out)) hb); clear HO_26; clear HL261_1; clear HO268; clear BK228; clear BK241; clear BK249; clear BK262; clear HB; have HO_26 := n0_; have HL261_1 := n1_; have HO268 := n2_; have HO272 := n3_; have BK228 := n4_; have BK241 := n5_; have BK249 := n6_; have BK262 := n7_; have HB := n8_; clear n0_ n1_ n2_ n3_ n4_ n5_ n6_ n7_ n8_; clear hb ho85))
             go_loopg [31] k2 (fun kq v31 w' => ∃ (x31_3 : Int), v31 = .int .i64 x31_3 ∧ Aside0 (dialtonelaw05_ClockMatchesReference.l1 kq a5 a6 true y258 x27_2 y266 y270 x31_3 ((rd_T24 y258 x27_2).f0) ((rd_T24 y258 x27_2).f1) = some r) ∧ Aside0 (kq ≤ k2) ∧ Aside0 (NX A261_1 ((rd_T24 y258 x27_2).f1) w' w.heap.size (fun k_ => some k_ ≠ (v267 : Value).ownBlock ∧ some k_ ≠ (v271 : Value).ownBlock ∧ k_ ≠ gb228 ∧ k_ ≠ gb241 ∧ k_ ≠ gb249 ∧ k_ ≠ gb262) (.slice (some ad261) y258.length co70) y258) ∧ Aside0 (Kd.R (Kd.int .i64) 3 w' w.heap.size (fun k_ => some k_ ≠ (v271 : Value).ownBlock) v267 y266) ∧ Aside0 (Kd.R (Kd.int .i64) 3 w' w.heap.size (fun k_ => some k_ ≠ (v267 : Value).ownBlock) v271 y270) ∧ Aside0 (w'.heap[gb228]? = some (.cells #[.int .i64 a0_0, (.slice A0_1 l0_1.length c0_1)] 24 (0, 0))) ∧ Aside0 (w'.heap[gb241]? = some (.cells #[.int .i64 t238, .int .i64 t239] 32 (0, 0))) ∧ Aside0 (w'.heap[gb249]? = some (.cells #[.int .i64 t246, .int .i64 t247] 32 (0, 0))) ∧ Aside0 (w'.heap[gb262]? = some (.cells #[.int .i64 ((rd_T24 y258 x27_2).f0), (.slice A261_1 ((rd_T24 y258 x27_2).f1).length c261_1)] 24 (0, 0))) ∧ Aside0 (Below w.heap.size w w'))
             case atStart => exact ⟨(0), (by first | rfl | (simp; done) | (simp [*]; done)), H', ⟨Nat.le_refl _⟩, ⟨⟨(by (with_reducible repeat (first | apply Kd.N_alloc | apply Kd.N_drewN | apply Kd.N_drew)); exact Kd.N_mono HO_26.out (fun _ hk => ⟨hk.1.2, ⟨hk.2, ⟨hk.1.1.1, ⟨hk.1.1.2.1, ⟨hk.1.1.2.2.1, hk.1.1.2.2.2⟩⟩⟩⟩⟩)), (by (with_reducible repeat (first | apply Kd.F_alloc | apply Kd.F_drewN | apply Kd.F_drew)); exact Kd.F_mono (Kd.V_F HL261_1.out) (fun _ _ => trivial))⟩⟩, ⟨by (with_reducible repeat (first | apply Kd.R_alloc | apply Kd.R_drewN | apply Kd.R_drew)); exact Kd.R_mono HO268.out (fun _ hk => hk.2)⟩, ⟨by (with_reducible repeat (first | apply Kd.R_alloc | apply Kd.R_drewN | apply Kd.R_drew)); exact Kd.R_mono HO272.out (fun _ hk => hk.2)⟩, ⟨by (with_reducible repeat (first | refine blk_drewN ?_ _ | refine blk_drew ?_ | refine blk_alloc ?_ _)); exact BK228.out⟩, ⟨by (with_reducible repeat (first | refine blk_drewN ?_ _ | refine blk_drew ?_ | refine blk_alloc ?_ _)); exact BK241.out⟩, ⟨by (with_reducible repeat (first | refine blk_drewN ?_ _ | refine blk_drew ?_ | refine blk_alloc ?_ _)); exact BK249.out⟩, ⟨by (with_reducible repeat (first | refine blk_drewN ?_ _ | refine blk_drew ?_ | refine blk_alloc ?_ _)); exact BK262.out⟩, ⟨by repeat (first | (with_reducible first | exact HB.out | apply below_alloc | apply pw_below_drewN | apply below_drew1 | refine below_set ?_ GE228.out | refine below_set ?_ GE241.out | refine below_set ?_ GE249.out | refine below_set ?_ GE262.out) | exact HB.out)⟩⟩
             case round => as_aux_lemma =>
              clear H'
              try clear c1
              try clear c2
              try clear p2
              try clear q2
              try clear hx2
              try clear c3
              try clear q3
              try clear c4
              try clear c5
              try clear c6
              try clear c7
              try clear c10
              try clear c11
              try clear c12
              try clear c13
              try clear c14
              try clear c14b0
              try clear c14b1
              try clear c15
              try clear c15b0
              try clear c15b1
              try clear c16
              try clear c17
              try clear c17b0
              try clear c18
              try clear c18b0
              try clear c19
              try clear c19b0
              try clear q25
              try clear c26
              try clear p26
              try clear q26
              try clear hx26
              try clear c28
              try clear q31
              try clear c34
              try clear c35
              try clear c37
              try clear c37b0
              try clear c37b1
              try clear c38
              try clear c38b0
              try clear c38b1
              try clear c39
              try clear c39b0
              try clear c40
              try clear c41
              try clear c43
              try clear c45
              try clear c46
              try clear c48
              try clear c50
              try clear c53
              try clear c54
              try clear c62
              try clear c62b0
              try clear c63
              try clear c63b0
              try clear c64
              try clear c64b0
              try clear c67
              try clear c67b0
              try clear c67b1
              try clear c67b2
              try clear c72
              try clear c73
              try clear c74
              try clear hcz29_0
              try clear hcz29_1
              try clear hcz36_0
              try clear hcz36_1
              try clear hcz42_0
              try clear hcz42_1
              try clear hcz44_0
              try clear hcz44_1
              try clear hcz47_0
              try clear hcz47_1
              try clear hcz49_0
              try clear hcz49_1
              try clear hcz55_0
              try clear hcz55_1
              try clear hcz75_0
              try clear hcz75_1
              try clear hfz29_0
              try clear hfz29_1
              try clear hfz36_0
              try clear hfz36_1
              try clear hfz42_0
              try clear hfz42_1
              try clear hfz44_0
              try clear hfz44_1
              try clear hfz47_0
              try clear hfz47_1
              try clear hfz49_0
              try clear hfz49_1
              try clear hfz55_0
              try clear hfz55_1
              try clear hfz75_0
              try clear hfz75_1
              try clear hx261_0
              try clear hx261_1
              try clear p2
              try clear p261
              try clear q2
              try clear q25
              try clear q261
              try clear q3
              try clear q31
              obtain ⟨x31_3, rfl, HA, HK3, HO_26, HO_29, HO_30, BK228, BK241, BK249, BK262, HB⟩ := hrel
              cases gk with
              | zero => exact absurd HA.out (by simp [dialtonelaw05_ClockMatchesReference.l1])
              | succ k3 =>
               have H := HA.out
               clear HA
               simp only [dialtonelaw05_ClockMatchesReference.l1] at H
               by_cases c86 : x31_3 < 2
               ·
                rw [if_pos c86] at H
                have c86b0 : decide (x31_3 < 2) = true := decide_eq_true c86
                clear c86
                by_cases c87 : 0 ≤ x31_3
                ·
                 rw [if_pos c87] at H
                 have c87b0 : decide (0 ≤ x31_3) = true := decide_eq_true c87
                 clear c87
                 by_cases c88 : x31_3 < (y266.length : Int)
                 ·
                  rw [if_pos c88] at H
                  have c88b0 : decide (x31_3 < (y266.length : Int)) = true := decide_eq_true c88
                  clear c88
                  replace H := Option.bind_eq_some_iff.mp H
                  obtain ⟨⟨t274, t275, t276⟩, A890, H⟩ := H
                  replace H : ((dialtoneref05_At.f k3 ((rd_T24 y258 x27_2).f0) ((rd_T24 y258 x27_2).f1) (rd y266 x31_3)).bind fun bt278 => (if x31_3 < (y270.length : Int) then ((clock_Reads.f ((rd_T24 y258 x27_2).f0) ((rd_T24 y258 x27_2).f1) (rd y270 x31_3)).bind fun bt282 => ((dialtoneref05_Reads.f k3 ((rd_T24 y258 x27_2).f0) ((rd_T24 y258 x27_2).f1) (rd y270 x31_3)).bind fun bt286 => (if t274 = bt278.1 then (if t275 = bt278.2.1 then (if t276 = bt278.2.2 then (if bt282.1 = bt286.1 then (if bt282.2.1 = bt286.2.1 then (dialtonelaw05_ClockMatchesReference.j3 k3 a5 a6 true y258 x27_2 y266 y270 x31_3 (bt282.2.2 != bt286.2.2) ((rd_T24 y258 x27_2).f0) ((rd_T24 y258 x27_2).f1)) else (dialtonelaw05_ClockMatchesReference.j3 k3 a5 a6 true y258 x27_2 y266 y270 x31_3 true ((rd_T24 y258 x27_2).f0) ((rd_T24 y258 x27_2).f1))) else (dialtonelaw05_ClockMatchesReference.j3 k3 a5 a6 true y258 x27_2 y266 y270 x31_3 true ((rd_T24 y258 x27_2).f0) ((rd_T24 y258 x27_2).f1))) else (dialtonelaw05_ClockMatchesReference.j3 k3 a5 a6 true y258 x27_2 y266 y270 x31_3 true ((rd_T24 y258 x27_2).f0) ((rd_T24 y258 x27_2).f1))) else (dialtonelaw05_ClockMatchesReference.j3 k3 a5 a6 true y258 x27_2 y266 y270 x31_3 true ((rd_T24 y258 x27_2).f0) ((rd_T24 y258 x27_2).f1))) else (dialtonelaw05_ClockMatchesReference.j3 k3 a5 a6 true y258 x27_2 y266 y270 x31_3 true ((rd_T24 y258 x27_2).f0) ((rd_T24 y258 x27_2).f1))))) else (none))) = some r := H
                  have A89 := Aside0.mk A890
                  clear A890
                  replace H := Option.bind_eq_some_iff.mp H
                  obtain ⟨⟨t278, t279, t280⟩, A900, H⟩ := H
                  replace H : (if x31_3 < (y270.length : Int) then ((clock_Reads.f ((rd_T24 y258 x27_2).f0) ((rd_T24 y258 x27_2).f1) (rd y270 x31_3)).bind fun bt282 => ((dialtoneref05_Reads.f k3 ((rd_T24 y258 x27_2).f0) ((rd_T24 y258 x27_2).f1) (rd y270 x31_3)).bind fun bt286 => (if t274 = t278 then (if t275 = t279 then (if t276 = t280 then (if bt282.1 = bt286.1 then (if bt282.2.1 = bt286.2.1 then (dialtonelaw05_ClockMatchesReference.j3 k3 a5 a6 true y258 x27_2 y266 y270 x31_3 (bt282.2.2 != bt286.2.2) ((rd_T24 y258 x27_2).f0) ((rd_T24 y258 x27_2).f1)) else (dialtonelaw05_ClockMatchesReference.j3 k3 a5 a6 true y258 x27_2 y266 y270 x31_3 true ((rd_T24 y258 x27_2).f0) ((rd_T24 y258 x27_2).f1))) else (dialtonelaw05_ClockMatchesReference.j3 k3 a5 a6 true y258 x27_2 y266 y270 x31_3 true ((rd_T24 y258 x27_2).f0) ((rd_T24 y258 x27_2).f1))) else (dialtonelaw05_ClockMatchesReference.j3 k3 a5 a6 true y258 x27_2 y266 y270 x31_3 true ((rd_T24 y258 x27_2).f0) ((rd_T24 y258 x27_2).f1))) else (dialtonelaw05_ClockMatchesReference.j3 k3 a5 a6 true y258 x27_2 y266 y270 x31_3 true ((rd_T24 y258 x27_2).f0) ((rd_T24 y258 x27_2).f1))) else (dialtonelaw05_ClockMatchesReference.j3 k3 a5 a6 true y258 x27_2 y266 y270 x31_3 true ((rd_T24 y258 x27_2).f0) ((rd_T24 y258 x27_2).f1))))) else (none)) = some r := H
                  have A90 := Aside0.mk A900
                  clear A900
                  by_cases c91 : x31_3 < (y270.length : Int)
                  ·
                   rw [if_pos c91] at H
                   have c91b0 : decide (x31_3 < (y270.length : Int)) = true := decide_eq_true c91
                   clear c91
                   replace H := Option.bind_eq_some_iff.mp H
                   obtain ⟨⟨t282, t283, t284⟩, A920, H⟩ := H
                   replace H : ((dialtoneref05_Reads.f k3 ((rd_T24 y258 x27_2).f0) ((rd_T24 y258 x27_2).f1) (rd y270 x31_3)).bind fun bt286 => (if t274 = t278 then (if t275 = t279 then (if t276 = t280 then (if t282 = bt286.1 then (if t283 = bt286.2.1 then (dialtonelaw05_ClockMatchesReference.j3 k3 a5 a6 true y258 x27_2 y266 y270 x31_3 (t284 != bt286.2.2) ((rd_T24 y258 x27_2).f0) ((rd_T24 y258 x27_2).f1)) else (dialtonelaw05_ClockMatchesReference.j3 k3 a5 a6 true y258 x27_2 y266 y270 x31_3 true ((rd_T24 y258 x27_2).f0) ((rd_T24 y258 x27_2).f1))) else (dialtonelaw05_ClockMatchesReference.j3 k3 a5 a6 true y258 x27_2 y266 y270 x31_3 true ((rd_T24 y258 x27_2).f0) ((rd_T24 y258 x27_2).f1))) else (dialtonelaw05_ClockMatchesReference.j3 k3 a5 a6 true y258 x27_2 y266 y270 x31_3 true ((rd_T24 y258 x27_2).f0) ((rd_T24 y258 x27_2).f1))) else (dialtonelaw05_ClockMatchesReference.j3 k3 a5 a6 true y258 x27_2 y266 y270 x31_3 true ((rd_T24 y258 x27_2).f0) ((rd_T24 y258 x27_2).f1))) else (dialtonelaw05_ClockMatchesReference.j3 k3 a5 a6 true y258 x27_2 y266 y270 x31_3 true ((rd_T24 y258 x27_2).f0) ((rd_T24 y258 x27_2).f1)))) = some r := H
                   have A92 := Aside0.mk A920
                   clear A920
                   replace H := Option.bind_eq_some_iff.mp H
                   obtain ⟨⟨t286, t287, t288⟩, A930, H⟩ := H
                   replace H : (if t274 = t278 then (if t275 = t279 then (if t276 = t280 then (if t282 = t286 then (if t283 = t287 then (dialtonelaw05_ClockMatchesReference.j3 k3 a5 a6 true y258 x27_2 y266 y270 x31_3 (t284 != t288) ((rd_T24 y258 x27_2).f0) ((rd_T24 y258 x27_2).f1)) else (dialtonelaw05_ClockMatchesReference.j3 k3 a5 a6 true y258 x27_2 y266 y270 x31_3 true ((rd_T24 y258 x27_2).f0) ((rd_T24 y258 x27_2).f1))) else (dialtonelaw05_ClockMatchesReference.j3 k3 a5 a6 true y258 x27_2 y266 y270 x31_3 true ((rd_T24 y258 x27_2).f0) ((rd_T24 y258 x27_2).f1))) else (dialtonelaw05_ClockMatchesReference.j3 k3 a5 a6 true y258 x27_2 y266 y270 x31_3 true ((rd_T24 y258 x27_2).f0) ((rd_T24 y258 x27_2).f1))) else (dialtonelaw05_ClockMatchesReference.j3 k3 a5 a6 true y258 x27_2 y266 y270 x31_3 true ((rd_T24 y258 x27_2).f0) ((rd_T24 y258 x27_2).f1))) else (dialtonelaw05_ClockMatchesReference.j3 k3 a5 a6 true y258 x27_2 y266 y270 x31_3 true ((rd_T24 y258 x27_2).f0) ((rd_T24 y258 x27_2).f1))) = some r := H
                   have A93 := Aside0.mk A930
                   clear A930
                   have HC94 := Aside0.mk H
                   clear H
                   try go_wp2
                   have n0_ := Aside0.mk (NX_drew HO_26.out)
                   have n1_ := Aside0.mk (Kd.R_drew HO_29.out)
                   have n2_ := Aside0.mk (Kd.R_drew HO_30.out)
                   have n3_ := Aside0.mk (blk_drew BK228.out)
                   have n4_ := Aside0.mk (blk_drew BK241.out)
                   have n5_ := Aside0.mk (blk_drew BK249.out)
                   have n6_ := Aside0.mk (blk_drew BK262.out)
                   have n7_ := Aside0.mk (below_drew1 HB.out)
                   clear HO_26
                   clear HO_29
                   clear HO_30
                   clear BK228
                   clear BK241
                   clear BK249
                   clear BK262
                   clear HB
                   have HO_26 := n0_
                   have HO_29 := n1_
                   have HO_30 := n2_
                   have BK228 := n3_
                   have BK241 := n4_
                   have BK249 := n5_
                   have BK262 := n6_
                   have HB := n7_
                   clear n0_ n1_ n2_ n3_ n4_ n5_ n6_ n7_
                   obtain ⟨Ao96, co96, eo96⟩ := Kd.R_slice HO_29.out
                   (first | subst eo96 | (injection eo96 with f1_ f2_ f3_; have f4_ := f1_.symm; have f5_ := f3_.symm; clear f1_ f2_ f3_; subst f4_; subst f5_))
                   have p273 : 0 ≤ (x31_3 : Int) := of_decide_eq_true (by first | (with_reducible assumption) | assumption)
                   have q273 : x31_3 < (y266.length : Int) := of_decide_eq_true (by first | (with_reducible assumption) | assumption)
                   obtain ⟨ad273, e273, hx273_0⟩ := Kd.at_int (Kd.R_reads' HO_29.out).2.2 x31_3 p273 q273
                   cases e273
                   replace p273 := eq_true p273
                   replace q273 := eq_true q273
                   refine start_ (n := 13) (S := fun w' => w'.cell? ⟨gb262, 0, none⟩ = some (.int .i64 ((rd_T24 y258 x27_2).f0)) ∧ w'.cell? ⟨gb262, 1, none⟩ = some (.slice A261_1 ((rd_T24 y258 x27_2).f1).length c261_1) ∧ w'.cell? (ad273.add (x31_3).toNat) = some (.int .i64 (rd y266 x31_3))) (ds := []) #[false, false, false, false, false, false, false, false, false, false, false, false, false] (by kernel_rfl) rfl rfl ⟨(blk_cell BK262.out 0).trans rfl, (blk_cell BK262.out 1).trans rfl, hx273_0⟩ (fun hHeld => ?_); refine with_tabW dialtonelaw05_ClockMatchesReference.tab22 dialtonelaw05_ClockMatchesReference.bits22 (fun HT_ HW_ => ?_)
                   generalize wr.drew = w95 at HO_26 HO_29 HO_30 BK228 BK241 BK249 BK262 HB hx273_0 hHeld ⊢
                   refine pure_ (i := 1) (N := some 130) (v := ?_) (a' := ?_) #[false, true, false, false, false, false, false, false, false, false, false, false, false] rfl rfl (any_of HT_.out (by kernel_rfl)) (fun _ _ _ h => h) (Or.inl ⟨by rfl, ?_⟩) ?_ ?_
                   rotate_left
                   ·
                    intro w'
                    go_simp
                    with_reducible rfl
                   rotate_left
                   ·
                    simp only [Act.put, List.setIfInBounds_toArray, List.set_cons_zero, List.set_cons_succ, i64_w, i32_w]
                    rfl
                   refine pure_ (i := 2) (N := some 131) (v := ?_) (a' := ?_) #[false, true, true, false, false, false, false, false, false, false, false, false, false] rfl rfl (any_of HT_.out (by kernel_rfl)) (fun _ _ _ h => h) (Or.inl ⟨by rfl, ?_⟩) ?_ ?_
                   rotate_left
                   ·
                    intro w'
                    go_simp
                    with_reducible rfl
                   rotate_left
                   ·
                    simp only [Act.put, List.setIfInBounds_toArray, List.set_cons_zero, List.set_cons_succ, i64_w, i32_w]
                    rfl
                   refine pure_ (i := 3) (N := some 132) (v := ?_) (a' := ?_) #[false, true, true, true, false, false, false, false, false, false, false, false, false] rfl rfl (any_of HT_.out (by kernel_rfl)) (fun _ _ _ h => h) (Or.inl ⟨by rfl, ?_⟩) ?_ ?_
                   rotate_left
                   ·
                    intro w'
                    go_simp
                    with_reducible rfl
                   rotate_left
                   ·
                    simp only [Act.put, List.setIfInBounds_toArray, List.set_cons_zero, List.set_cons_succ, i64_w, i32_w]
                    rfl
                   refine take_ (i := 0) (N := some 129) (v := ?_) (a' := ?_) #[true, true, true, true, false, false, false, false, false, false, false, false, false] rfl rfl (take_ofW HT_.out HW_.out (by kernel_rfl)) (fun _ _ _ h => h) (Or.inl ⟨by rfl, ?_⟩) hHeld ?_ ?_
                   rotate_left
                   ·
                    rintro w' ⟨s0, s1, s2⟩
                    go_simp
                    with_reducible rfl
                   rotate_left
                   ·
                    simp only [Act.put, List.setIfInBounds_toArray, List.set_cons_zero, List.set_cons_succ, i64_w, i32_w]
                    rfl
                   refine take_ (i := 4) (N := some 133) (v := ?_) (a' := ?_) #[true, true, true, true, true, false, false, false, false, false, false, false, false] rfl rfl (take_ofW HT_.out HW_.out (by kernel_rfl)) (fun _ _ _ h => h) (Or.inl ⟨by rfl, ?_⟩) hHeld ?_ ?_
                   rotate_left
                   ·
                    rintro w' ⟨s0, s1, s2⟩
                    go_simp
                    with_reducible rfl
                   rotate_left
                   ·
                    simp only [Act.put, List.setIfInBounds_toArray, List.set_cons_zero, List.set_cons_succ, i64_w, i32_w]
                    rfl
                   refine one_ (i := 5) (N := some 134) #[true, true, true, true, true, true, false, false, false, false, false, false, false] rfl rfl (one_of HT_.out (by kernel_rfl)) (by decide) (fun K hK => ?_)
                   refine goes_ Try.func20 (by kernel_rfl) rfl #[.agg #[.int .i64 ((rd_T24 y258 x27_2).f0), .slice A261_1 ((rd_T24 y258 x27_2).f1).length c261_1], .int .i64 (rd y266 x31_3)] (by rfl) rfl rfl (by (try simp only [List.map_toArray, List.map_cons, List.map_nil]); first | done | rfl | (simp only [List.length_drop, List.length_take]; rfl)) ?_
                   with_reducible refine (clock_At.calls k3 ((rd_T24 y258 x27_2).f0) _ _ ((rd_T24 y258 x27_2).f1) (rd y266 x31_3) t274 t275 t276 _ ?side1 ?side2 A89.out).mono ?_
                   (case side1 => repeat (first | exact (Kd.F_now HO_26.out.2) | (with_reducible refine Kd.C_alloc ?_ _) | (with_reducible refine Kd.C_drewN ?_ _) | (with_reducible refine Kd.C_drew ?_)))
                   (case side2 => exact HC261_1.out)
                   rintro e w97 ⟨rfl, hb⟩
                   have HS2_ := (hb.cell (World.block_lt_of_cell? _ _ (hHeld.2.2))).trans (hHeld.2.2)
                   refine ⟨_, rfl, ?_⟩
                   have n0_ := Aside0.mk (NX_below (by (with_reducible repeat (first | apply NX_alloc | apply NX_drewN | apply NX_drew)); exact HO_26.out) hb)
                   have n1_ := Aside0.mk (Kd.R_below (by (with_reducible repeat (first | apply Kd.R_alloc | apply Kd.R_drewN | apply Kd.R_drew)); exact HO_29.out) hb)
                   have n2_ := Aside0.mk (Kd.R_below (by (with_reducible repeat (first | apply Kd.R_alloc | apply Kd.R_drewN | apply Kd.R_drew)); exact HO_30.out) hb)
                   have n3_ := Aside0.mk (blk_below (g := gb228) (o := .cells #[.int .i64 a0_0, .slice A0_1 l0_1.length c0_1] 24 (0, 0)) (by (with_reducible repeat (first | refine blk_drewN ?_ _ | refine blk_drew ?_ | refine blk_alloc ?_ _)); exact BK228.out) hb)
                   have n4_ := Aside0.mk (blk_below (g := gb241) (o := .cells #[.int .i64 t238, .int .i64 t239] 32 (0, 0)) (by (with_reducible repeat (first | refine blk_drewN ?_ _ | refine blk_drew ?_ | refine blk_alloc ?_ _)); exact BK241.out) hb)
                   have n5_ := Aside0.mk (blk_below (g := gb249) (o := .cells #[.int .i64 t246, .int .i64 t247] 32 (0, 0)) (by (with_reducible repeat (first | refine blk_drewN ?_ _ | refine blk_drew ?_ | refine blk_alloc ?_ _)); exact BK249.out) hb)
                   have n6_ := Aside0.mk (blk_below (g := gb262) (o := .cells #[.int .i64 ((rd_T24 y258 x27_2).f0), .slice A261_1 ((rd_T24 y258 x27_2).f1).length c261_1] 24 (0, 0)) (by (with_reducible repeat (first | refine blk_drewN ?_ _ | refine blk_drew ?_ | refine blk_alloc ?_ _)); exact BK262.out) hb)
                   have n7_ := Aside0.mk (below_step (by repeat (first | (with_reducible first | exact HB.out | apply below_alloc | apply pw_below_drewN | apply below_drew1 | refine below_set ?_ GE228.out | refine below_set ?_ GE241.out | refine below_set ?_ GE249.out | refine below_set ?_ GE262.out) | exact HB.out)) hb)
                   clear HO_26
                   clear HO_29
                   clear HO_30
                   clear BK228
                   clear BK241
                   clear BK249
                   clear BK262
                   clear HB
                   have HO_26 := n0_
                   have HO_29 := n1_
                   have HO_30 := n2_
                   have BK228 := n3_
                   have BK241 := n4_
                   have BK249 := n5_
                   have BK262 := n6_
                   have HB := n7_
                   clear n0_ n1_ n2_ n3_ n4_ n5_ n6_ n7_
                   (try clear hb)
                   (try clear hb2)
                   (try clear hk)
                   (try clear hi)
                   refine hK.out _ _ ⟨(blk_cell BK262.out 0).trans rfl, (blk_cell BK262.out 1).trans rfl, HS2_⟩ (fun hHeld => ?_)
                   clear hK K
                   refine norm_ (a' := ?_) ?_ ?_
                   rotate_left
                   ·
                    show Act.put _ (some 134) _ = _
                    simp only [Act.put, List.setIfInBounds_toArray, List.set_cons_zero, List.set_cons_succ, i64_w, i32_w]
                    rfl
                   refine pure_ (i := 6) (N := some 128) (v := ?_) (a' := ?_) #[true, true, true, true, true, true, true, false, false, false, false, false, false] rfl rfl (any_of HT_.out (by kernel_rfl)) (fun _ _ _ h => h) (Or.inl ⟨by rfl, ?_⟩) ?_ ?_
                   rotate_left
                   ·
                    intro w'
                    go_simp
                    with_reducible rfl
                   rotate_left
                   ·
                    simp only [Act.put, List.setIfInBounds_toArray, List.set_cons_zero, List.set_cons_succ, i64_w, i32_w]
                    rfl
                   refine pure_ (i := 7) (N := some 135) (v := ?_) (a' := ?_) #[true, true, true, true, true, true, true, true, false, false, false, false, false] rfl rfl (any_of HT_.out (by kernel_rfl)) (fun _ _ _ h => h) (Or.inl ⟨by rfl, ?_⟩) ?_ ?_
                   rotate_left
                   ·
                    intro w'
                    go_simp
                    with_reducible rfl
                   rotate_left
                   ·
                    simp only [Act.put, List.setIfInBounds_toArray, List.set_cons_zero, List.set_cons_succ, i64_w, i32_w]
                    rfl
                   refine pure_ (i := 8) (N := some 136) (v := ?_) (a' := ?_) #[true, true, true, true, true, true, true, true, true, false, false, false, false] rfl rfl (any_of HT_.out (by kernel_rfl)) (fun _ _ _ h => h) (Or.inl ⟨by rfl, ?_⟩) ?_ ?_
                   rotate_left
                   ·
                    intro w'
                    go_simp
                    with_reducible rfl
                   rotate_left
                   ·
                    simp only [Act.put, List.setIfInBounds_toArray, List.set_cons_zero, List.set_cons_succ, i64_w, i32_w]
                    rfl
                   refine pure_ (i := 9) (N := some 137) (v := ?_) (a' := ?_) #[true, true, true, true, true, true, true, true, true, true, false, false, false] rfl rfl (any_of HT_.out (by kernel_rfl)) (fun _ _ _ h => h) (Or.inl ⟨by rfl, ?_⟩) ?_ ?_
                   rotate_left
                   ·
                    intro w'
                    go_simp
                    with_reducible rfl
                   rotate_left
                   ·
                    simp only [Act.put, List.setIfInBounds_toArray, List.set_cons_zero, List.set_cons_succ, i64_w, i32_w]
                    rfl
                   refine pure_ (i := 10) (N := some 32) (v := ?_) (a' := ?_) #[true, true, true, true, true, true, true, true, true, true, true, false, false] rfl rfl (any_of HT_.out (by kernel_rfl)) (fun _ _ _ h => h) (Or.inl ⟨by rfl, ?_⟩) ?_ ?_
                   rotate_left
                   ·
                    intro w'
                    go_simp
                    with_reducible rfl
                   rotate_left
                   ·
                    simp only [Act.put, List.setIfInBounds_toArray, List.set_cons_zero, List.set_cons_succ, i64_w, i32_w]
                    rfl
                   refine pure_ (i := 11) (N := some 33) (v := ?_) (a' := ?_) #[true, true, true, true, true, true, true, true, true, true, true, true, false] rfl rfl (any_of HT_.out (by kernel_rfl)) (fun _ _ _ h => h) (Or.inl ⟨by rfl, ?_⟩) ?_ ?_
                   rotate_left
                   ·
                    intro w'
                    go_simp
                    with_reducible rfl
                   rotate_left
                   ·
                    simp only [Act.put, List.setIfInBounds_toArray, List.set_cons_zero, List.set_cons_succ, i64_w, i32_w]
                    rfl
                   refine pure_ (i := 12) (N := some 34) (v := ?_) (a' := ?_) #[true, true, true, true, true, true, true, true, true, true, true, true, true] rfl rfl (any_of HT_.out (by kernel_rfl)) (fun _ _ _ h => h) (Or.inl ⟨by rfl, ?_⟩) ?_ ?_
                   rotate_left
                   ·
                    intro w'
                    go_simp
                    with_reducible rfl
                   rotate_left
                   ·
                    simp only [Act.put, List.setIfInBounds_toArray, List.set_cons_zero, List.set_cons_succ, i64_w, i32_w]
                    rfl
                   refine done_ (done_of HT_.out (by kernel_rfl)) ?_
                   try go_wp2
                   have n0_ := Aside0.mk (NX_drew HO_26.out)
                   have n1_ := Aside0.mk (Kd.R_drew HO_29.out)
                   have n2_ := Aside0.mk (Kd.R_drew HO_30.out)
                   have n3_ := Aside0.mk (blk_drew BK228.out)
                   have n4_ := Aside0.mk (blk_drew BK241.out)
                   have n5_ := Aside0.mk (blk_drew BK249.out)
                   have n6_ := Aside0.mk (blk_drew BK262.out)
                   have n7_ := Aside0.mk (below_drew1 HB.out)
                   clear HO_26
                   clear HO_29
                   clear HO_30
                   clear BK228
                   clear BK241
                   clear BK249
                   clear BK262
                   clear HB
                   have HO_26 := n0_
                   have HO_29 := n1_
                   have HO_30 := n2_
                   have BK228 := n3_
                   have BK241 := n4_
                   have BK249 := n5_
                   have BK262 := n6_
                   have HB := n7_
                   clear n0_ n1_ n2_ n3_ n4_ n5_ n6_ n7_
                   have p277 : 0 ≤ (x31_3 : Int) := of_decide_eq_true (by first | (with_reducible assumption) | assumption)
                   have q277 : x31_3 < (y266.length : Int) := of_decide_eq_true (by first | (with_reducible assumption) | assumption)
                   obtain ⟨ad277, e277, hx277_0⟩ := Kd.at_int (Kd.R_reads' HO_29.out).2.2 x31_3 p277 q277
                   obtain rfl : ad273 = ad277 := (by injection e277)
                   replace p277 := eq_true p277
                   replace q277 := eq_true q277
                   refine start_ (n := 13) (S := fun w' => w'.cell? ⟨gb262, 0, none⟩ = some (.int .i64 ((rd_T24 y258 x27_2).f0)) ∧ w'.cell? ⟨gb262, 1, none⟩ = some (.slice A261_1 ((rd_T24 y258 x27_2).f1).length c261_1) ∧ w'.cell? (ad273.add (x31_3).toNat) = some (.int .i64 (rd y266 x31_3))) (ds := []) #[false, false, false, false, false, false, false, false, false, false, false, false, false] (by kernel_rfl) rfl rfl ⟨(blk_cell BK262.out 0).trans rfl, (blk_cell BK262.out 1).trans rfl, hx277_0⟩ (fun hHeld => ?_); refine with_tabW dialtonelaw05_ClockMatchesReference.tab23 dialtonelaw05_ClockMatchesReference.bits23 (fun HT_ HW_ => ?_)
                   generalize w97.drew = w98 at HO_26 HO_29 HO_30 BK228 BK241 BK249 BK262 HB hx277_0 hHeld ⊢
                   refine pure_ (i := 1) (N := some 140) (v := ?_) (a' := ?_) #[false, true, false, false, false, false, false, false, false, false, false, false, false] rfl rfl (any_of HT_.out (by kernel_rfl)) (fun _ _ _ h => h) (Or.inl ⟨by rfl, ?_⟩) ?_ ?_
                   rotate_left
                   ·
                    intro w'
                    go_simp
                    with_reducible rfl
                   rotate_left
                   ·
                    simp only [Act.put, List.setIfInBounds_toArray, List.set_cons_zero, List.set_cons_succ, i64_w, i32_w]
                    rfl
                   refine pure_ (i := 2) (N := some 141) (v := ?_) (a' := ?_) #[false, true, true, false, false, false, false, false, false, false, false, false, false] rfl rfl (any_of HT_.out (by kernel_rfl)) (fun _ _ _ h => h) (Or.inl ⟨by rfl, ?_⟩) ?_ ?_
                   rotate_left
                   ·
                    intro w'
                    go_simp
                    with_reducible rfl
                   rotate_left
                   ·
                    simp only [Act.put, List.setIfInBounds_toArray, List.set_cons_zero, List.set_cons_succ, i64_w, i32_w]
                    rfl
                   refine pure_ (i := 3) (N := some 142) (v := ?_) (a' := ?_) #[false, true, true, true, false, false, false, false, false, false, false, false, false] rfl rfl (any_of HT_.out (by kernel_rfl)) (fun _ _ _ h => h) (Or.inl ⟨by rfl, ?_⟩) ?_ ?_
                   rotate_left
                   ·
                    intro w'
                    go_simp
                    with_reducible rfl
                   rotate_left
                   ·
                    simp only [Act.put, List.setIfInBounds_toArray, List.set_cons_zero, List.set_cons_succ, i64_w, i32_w]
                    rfl
                   refine take_ (i := 0) (N := some 139) (v := ?_) (a' := ?_) #[true, true, true, true, false, false, false, false, false, false, false, false, false] rfl rfl (take_ofW HT_.out HW_.out (by kernel_rfl)) (fun _ _ _ h => h) (Or.inl ⟨by rfl, ?_⟩) hHeld ?_ ?_
                   rotate_left
                   ·
                    rintro w' ⟨s0, s1, s2⟩
                    go_simp
                    with_reducible rfl
                   rotate_left
                   ·
                    simp only [Act.put, List.setIfInBounds_toArray, List.set_cons_zero, List.set_cons_succ, i64_w, i32_w]
                    rfl
                   refine take_ (i := 4) (N := some 143) (v := ?_) (a' := ?_) #[true, true, true, true, true, false, false, false, false, false, false, false, false] rfl rfl (take_ofW HT_.out HW_.out (by kernel_rfl)) (fun _ _ _ h => h) (Or.inl ⟨by rfl, ?_⟩) hHeld ?_ ?_
                   rotate_left
                   ·
                    rintro w' ⟨s0, s1, s2⟩
                    go_simp
                    with_reducible rfl
                   rotate_left
                   ·
                    simp only [Act.put, List.setIfInBounds_toArray, List.set_cons_zero, List.set_cons_succ, i64_w, i32_w]
                    rfl
                   refine one_ (i := 5) (N := some 144) #[true, true, true, true, true, true, false, false, false, false, false, false, false] rfl rfl (one_of HT_.out (by kernel_rfl)) (by decide) (fun K hK => ?_)
                   refine goes_ Try.func21 (by kernel_rfl) rfl #[.agg #[.int .i64 ((rd_T24 y258 x27_2).f0), .slice A261_1 ((rd_T24 y258 x27_2).f1).length c261_1], .int .i64 (rd y266 x31_3)] (by rfl) rfl rfl (by (try simp only [List.map_toArray, List.map_cons, List.map_nil]); first | done | rfl | (simp only [List.length_drop, List.length_take]; rfl)) ?_
                   with_reducible refine (dialtoneref05_At.calls k3 ((rd_T24 y258 x27_2).f0) _ _ ((rd_T24 y258 x27_2).f1) (rd y266 x31_3) t278 t279 t280 _ ?side1 ?side2 A90.out).mono ?_
                   (case side1 => repeat (first | exact (Kd.F_now HO_26.out.2) | (with_reducible refine Kd.C_alloc ?_ _) | (with_reducible refine Kd.C_drewN ?_ _) | (with_reducible refine Kd.C_drew ?_)))
                   (case side2 => exact HC261_1.out)
                   rintro e w99 ⟨rfl, hb⟩
                   have HS2_ := (hb.cell (World.block_lt_of_cell? _ _ (hHeld.2.2))).trans (hHeld.2.2)
                   refine ⟨_, rfl, ?_⟩
                   have n0_ := Aside0.mk (NX_below (by (with_reducible repeat (first | apply NX_alloc | apply NX_drewN | apply NX_drew)); exact HO_26.out) hb)
                   have n1_ := Aside0.mk (Kd.R_below (by (with_reducible repeat (first | apply Kd.R_alloc | apply Kd.R_drewN | apply Kd.R_drew)); exact HO_29.out) hb)
                   have n2_ := Aside0.mk (Kd.R_below (by (with_reducible repeat (first | apply Kd.R_alloc | apply Kd.R_drewN | apply Kd.R_drew)); exact HO_30.out) hb)
                   have n3_ := Aside0.mk (blk_below (g := gb228) (o := .cells #[.int .i64 a0_0, .slice A0_1 l0_1.length c0_1] 24 (0, 0)) (by (with_reducible repeat (first | refine blk_drewN ?_ _ | refine blk_drew ?_ | refine blk_alloc ?_ _)); exact BK228.out) hb)
                   have n4_ := Aside0.mk (blk_below (g := gb241) (o := .cells #[.int .i64 t238, .int .i64 t239] 32 (0, 0)) (by (with_reducible repeat (first | refine blk_drewN ?_ _ | refine blk_drew ?_ | refine blk_alloc ?_ _)); exact BK241.out) hb)
                   have n5_ := Aside0.mk (blk_below (g := gb249) (o := .cells #[.int .i64 t246, .int .i64 t247] 32 (0, 0)) (by (with_reducible repeat (first | refine blk_drewN ?_ _ | refine blk_drew ?_ | refine blk_alloc ?_ _)); exact BK249.out) hb)
                   have n6_ := Aside0.mk (blk_below (g := gb262) (o := .cells #[.int .i64 ((rd_T24 y258 x27_2).f0), .slice A261_1 ((rd_T24 y258 x27_2).f1).length c261_1] 24 (0, 0)) (by (with_reducible repeat (first | refine blk_drewN ?_ _ | refine blk_drew ?_ | refine blk_alloc ?_ _)); exact BK262.out) hb)
                   have n7_ := Aside0.mk (below_step (by repeat (first | (with_reducible first | exact HB.out | apply below_alloc | apply pw_below_drewN | apply below_drew1 | refine below_set ?_ GE228.out | refine below_set ?_ GE241.out | refine below_set ?_ GE249.out | refine below_set ?_ GE262.out) | exact HB.out)) hb)
                   clear HO_26
                   clear HO_29
                   clear HO_30
                   clear BK228
                   clear BK241
                   clear BK249
                   clear BK262
                   clear HB
                   have HO_26 := n0_
                   have HO_29 := n1_
                   have HO_30 := n2_
                   have BK228 := n3_
                   have BK241 := n4_
                   have BK249 := n5_
                   have BK262 := n6_
                   have HB := n7_
                   clear n0_ n1_ n2_ n3_ n4_ n5_ n6_ n7_
                   (try clear hb)
                   (try clear hb2)
                   (try clear hk)
                   (try clear hi)
                   refine hK.out _ _ ⟨(blk_cell BK262.out 0).trans rfl, (blk_cell BK262.out 1).trans rfl, HS2_⟩ (fun hHeld => ?_)
                   clear hK K
                   refine norm_ (a' := ?_) ?_ ?_
                   rotate_left
                   ·
                    show Act.put _ (some 144) _ = _
                    simp only [Act.put, List.setIfInBounds_toArray, List.set_cons_zero, List.set_cons_succ, i64_w, i32_w]
                    rfl
                   refine pure_ (i := 6) (N := some 138) (v := ?_) (a' := ?_) #[true, true, true, true, true, true, true, false, false, false, false, false, false] rfl rfl (any_of HT_.out (by kernel_rfl)) (fun _ _ _ h => h) (Or.inl ⟨by rfl, ?_⟩) ?_ ?_
                   rotate_left
                   ·
                    intro w'
                    go_simp
                    with_reducible rfl
                   rotate_left
                   ·
                    simp only [Act.put, List.setIfInBounds_toArray, List.set_cons_zero, List.set_cons_succ, i64_w, i32_w]
                    rfl
                   refine pure_ (i := 7) (N := some 145) (v := ?_) (a' := ?_) #[true, true, true, true, true, true, true, true, false, false, false, false, false] rfl rfl (any_of HT_.out (by kernel_rfl)) (fun _ _ _ h => h) (Or.inl ⟨by rfl, ?_⟩) ?_ ?_
                   rotate_left
                   ·
                    intro w'
                    go_simp
                    with_reducible rfl
                   rotate_left
                   ·
                    simp only [Act.put, List.setIfInBounds_toArray, List.set_cons_zero, List.set_cons_succ, i64_w, i32_w]
                    rfl
                   refine pure_ (i := 8) (N := some 146) (v := ?_) (a' := ?_) #[true, true, true, true, true, true, true, true, true, false, false, false, false] rfl rfl (any_of HT_.out (by kernel_rfl)) (fun _ _ _ h => h) (Or.inl ⟨by rfl, ?_⟩) ?_ ?_
                   rotate_left
                   ·
                    intro w'
                    go_simp
                    with_reducible rfl
                   rotate_left
                   ·
                    simp only [Act.put, List.setIfInBounds_toArray, List.set_cons_zero, List.set_cons_succ, i64_w, i32_w]
                    rfl
                   refine pure_ (i := 9) (N := some 147) (v := ?_) (a' := ?_) #[true, true, true, true, true, true, true, true, true, true, false, false, false] rfl rfl (any_of HT_.out (by kernel_rfl)) (fun _ _ _ h => h) (Or.inl ⟨by rfl, ?_⟩) ?_ ?_
                   rotate_left
                   ·
                    intro w'
                    go_simp
                    with_reducible rfl
                   rotate_left
                   ·
                    simp only [Act.put, List.setIfInBounds_toArray, List.set_cons_zero, List.set_cons_succ, i64_w, i32_w]
                    rfl
                   refine pure_ (i := 10) (N := some 35) (v := ?_) (a' := ?_) #[true, true, true, true, true, true, true, true, true, true, true, false, false] rfl rfl (any_of HT_.out (by kernel_rfl)) (fun _ _ _ h => h) (Or.inl ⟨by rfl, ?_⟩) ?_ ?_
                   rotate_left
                   ·
                    intro w'
                    go_simp
                    with_reducible rfl
                   rotate_left
                   ·
                    simp only [Act.put, List.setIfInBounds_toArray, List.set_cons_zero, List.set_cons_succ, i64_w, i32_w]
                    rfl
                   refine pure_ (i := 11) (N := some 36) (v := ?_) (a' := ?_) #[true, true, true, true, true, true, true, true, true, true, true, true, false] rfl rfl (any_of HT_.out (by kernel_rfl)) (fun _ _ _ h => h) (Or.inl ⟨by rfl, ?_⟩) ?_ ?_
                   rotate_left
                   ·
                    intro w'
                    go_simp
                    with_reducible rfl
                   rotate_left
                   ·
                    simp only [Act.put, List.setIfInBounds_toArray, List.set_cons_zero, List.set_cons_succ, i64_w, i32_w]
                    rfl
                   refine pure_ (i := 12) (N := some 37) (v := ?_) (a' := ?_) #[true, true, true, true, true, true, true, true, true, true, true, true, true] rfl rfl (any_of HT_.out (by kernel_rfl)) (fun _ _ _ h => h) (Or.inl ⟨by rfl, ?_⟩) ?_ ?_
                   rotate_left
                   ·
                    intro w'
                    go_simp
                    with_reducible rfl
                   rotate_left
                   ·
                    simp only [Act.put, List.setIfInBounds_toArray, List.set_cons_zero, List.set_cons_succ, i64_w, i32_w]
                    rfl
                   refine done_ (done_of HT_.out (by kernel_rfl)) ?_
                   try go_wp2
                   have n0_ := Aside0.mk (NX_drew HO_26.out)
                   have n1_ := Aside0.mk (Kd.R_drew HO_29.out)
                   have n2_ := Aside0.mk (Kd.R_drew HO_30.out)
                   have n3_ := Aside0.mk (blk_drew BK228.out)
                   have n4_ := Aside0.mk (blk_drew BK241.out)
                   have n5_ := Aside0.mk (blk_drew BK249.out)
                   have n6_ := Aside0.mk (blk_drew BK262.out)
                   have n7_ := Aside0.mk (below_drew1 HB.out)
                   clear HO_26
                   clear HO_29
                   clear HO_30
                   clear BK228
                   clear BK241
                   clear BK249
                   clear BK262
                   clear HB
                   have HO_26 := n0_
                   have HO_29 := n1_
                   have HO_30 := n2_
                   have BK228 := n3_
                   have BK241 := n4_
                   have BK249 := n5_
                   have BK262 := n6_
                   have HB := n7_
                   clear n0_ n1_ n2_ n3_ n4_ n5_ n6_ n7_
                   obtain ⟨Ao101, co101, eo101⟩ := Kd.R_slice HO_30.out
                   (first | subst eo101 | (injection eo101 with f1_ f2_ f3_; have f4_ := f1_.symm; have f5_ := f3_.symm; clear f1_ f2_ f3_; subst f4_; subst f5_))
                   have p281 : 0 ≤ (x31_3 : Int) := of_decide_eq_true (by first | (with_reducible assumption) | assumption)
                   have q281 : x31_3 < (y270.length : Int) := of_decide_eq_true (by first | (with_reducible assumption) | assumption)
                   obtain ⟨ad281, e281, hx281_0⟩ := Kd.at_int (Kd.R_reads' HO_30.out).2.2 x31_3 p281 q281
                   cases e281
                   replace p281 := eq_true p281
                   replace q281 := eq_true q281
                   refine start_ (n := 13) (S := fun w' => w'.cell? ⟨gb262, 0, none⟩ = some (.int .i64 ((rd_T24 y258 x27_2).f0)) ∧ w'.cell? ⟨gb262, 1, none⟩ = some (.slice A261_1 ((rd_T24 y258 x27_2).f1).length c261_1) ∧ w'.cell? (ad281.add (x31_3).toNat) = some (.int .i64 (rd y270 x31_3))) (ds := []) #[false, false, false, false, false, false, false, false, false, false, false, false, false] (by kernel_rfl) rfl rfl ⟨(blk_cell BK262.out 0).trans rfl, (blk_cell BK262.out 1).trans rfl, hx281_0⟩ (fun hHeld => ?_); refine with_tabW dialtonelaw05_ClockMatchesReference.tab24 dialtonelaw05_ClockMatchesReference.bits24 (fun HT_ HW_ => ?_)
                   generalize w99.drew = w100 at HO_26 HO_29 HO_30 BK228 BK241 BK249 BK262 HB hx281_0 hHeld ⊢
                   refine pure_ (i := 1) (N := some 150) (v := ?_) (a' := ?_) #[false, true, false, false, false, false, false, false, false, false, false, false, false] rfl rfl (any_of HT_.out (by kernel_rfl)) (fun _ _ _ h => h) (Or.inl ⟨by rfl, ?_⟩) ?_ ?_
                   rotate_left
                   ·
                    intro w'
                    go_simp
                    with_reducible rfl
                   rotate_left
                   ·
                    simp only [Act.put, List.setIfInBounds_toArray, List.set_cons_zero, List.set_cons_succ, i64_w, i32_w]
                    rfl
                   refine pure_ (i := 2) (N := some 151) (v := ?_) (a' := ?_) #[false, true, true, false, false, false, false, false, false, false, false, false, false] rfl rfl (any_of HT_.out (by kernel_rfl)) (fun _ _ _ h => h) (Or.inl ⟨by rfl, ?_⟩) ?_ ?_
                   rotate_left
                   ·
                    intro w'
                    go_simp
                    with_reducible rfl
                   rotate_left
                   ·
                    simp only [Act.put, List.setIfInBounds_toArray, List.set_cons_zero, List.set_cons_succ, i64_w, i32_w]
                    rfl
                   refine pure_ (i := 3) (N := some 152) (v := ?_) (a' := ?_) #[false, true, true, true, false, false, false, false, false, false, false, false, false] rfl rfl (any_of HT_.out (by kernel_rfl)) (fun _ _ _ h => h) (Or.inl ⟨by rfl, ?_⟩) ?_ ?_
                   rotate_left
                   ·
                    intro w'
                    go_simp
                    with_reducible rfl
                   rotate_left
                   ·
                    simp only [Act.put, List.setIfInBounds_toArray, List.set_cons_zero, List.set_cons_succ, i64_w, i32_w]
                    rfl
                   refine take_ (i := 0) (N := some 149) (v := ?_) (a' := ?_) #[true, true, true, true, false, false, false, false, false, false, false, false, false] rfl rfl (take_ofW HT_.out HW_.out (by kernel_rfl)) (fun _ _ _ h => h) (Or.inl ⟨by rfl, ?_⟩) hHeld ?_ ?_
                   rotate_left
                   ·
                    rintro w' ⟨s0, s1, s2⟩
                    go_simp
                    with_reducible rfl
                   rotate_left
                   ·
                    simp only [Act.put, List.setIfInBounds_toArray, List.set_cons_zero, List.set_cons_succ, i64_w, i32_w]
                    rfl
                   refine take_ (i := 4) (N := some 153) (v := ?_) (a' := ?_) #[true, true, true, true, true, false, false, false, false, false, false, false, false] rfl rfl (take_ofW HT_.out HW_.out (by kernel_rfl)) (fun _ _ _ h => h) (Or.inl ⟨by rfl, ?_⟩) hHeld ?_ ?_
                   rotate_left
                   ·
                    rintro w' ⟨s0, s1, s2⟩
                    go_simp
                    with_reducible rfl
                   rotate_left
                   ·
                    simp only [Act.put, List.setIfInBounds_toArray, List.set_cons_zero, List.set_cons_succ, i64_w, i32_w]
                    rfl
                   refine one_ (i := 5) (N := some 154) #[true, true, true, true, true, true, false, false, false, false, false, false, false] rfl rfl (one_of HT_.out (by kernel_rfl)) (by decide) (fun K hK => ?_)
                   refine goes_ Try.func22 (by kernel_rfl) rfl #[.agg #[.int .i64 ((rd_T24 y258 x27_2).f0), .slice A261_1 ((rd_T24 y258 x27_2).f1).length c261_1], .int .i64 (rd y270 x31_3)] (by rfl) rfl rfl (by (try simp only [List.map_toArray, List.map_cons, List.map_nil]); first | done | rfl | (simp only [List.length_drop, List.length_take]; rfl)) ?_
                   with_reducible refine (clock_Reads.calls ((rd_T24 y258 x27_2).f0) _ _ ((rd_T24 y258 x27_2).f1) (rd y270 x31_3) t282 t283 t284 _ ?side1 ?side2 A92.out).mono ?_
                   (case side1 => repeat (first | exact (Kd.F_now HO_26.out.2) | (with_reducible refine Kd.C_alloc ?_ _) | (with_reducible refine Kd.C_drewN ?_ _) | (with_reducible refine Kd.C_drew ?_)))
                   (case side2 => exact HC261_1.out)
                   rintro e w102 ⟨rfl, hb⟩
                   have HS2_ := (hb.cell (World.block_lt_of_cell? _ _ (hHeld.2.2))).trans (hHeld.2.2)
                   refine ⟨_, rfl, ?_⟩
                   have n0_ := Aside0.mk (NX_below (by (with_reducible repeat (first | apply NX_alloc | apply NX_drewN | apply NX_drew)); exact HO_26.out) hb)
                   have n1_ := Aside0.mk (Kd.R_below (by (with_reducible repeat (first | apply Kd.R_alloc | apply Kd.R_drewN | apply Kd.R_drew)); exact HO_29.out) hb)
                   have n2_ := Aside0.mk (Kd.R_below (by (with_reducible repeat (first | apply Kd.R_alloc | apply Kd.R_drewN | apply Kd.R_drew)); exact HO_30.out) hb)
                   have n3_ := Aside0.mk (blk_below (g := gb228) (o := .cells #[.int .i64 a0_0, .slice A0_1 l0_1.length c0_1] 24 (0, 0)) (by (with_reducible repeat (first | refine blk_drewN ?_ _ | refine blk_drew ?_ | refine blk_alloc ?_ _)); exact BK228.out) hb)
                   have n4_ := Aside0.mk (blk_below (g := gb241) (o := .cells #[.int .i64 t238, .int .i64 t239] 32 (0, 0)) (by (with_reducible repeat (first | refine blk_drewN ?_ _ | refine blk_drew ?_ | refine blk_alloc ?_ _)); exact BK241.out) hb)
                   have n5_ := Aside0.mk (blk_below (g := gb249) (o := .cells #[.int .i64 t246, .int .i64 t247] 32 (0, 0)) (by (with_reducible repeat (first | refine blk_drewN ?_ _ | refine blk_drew ?_ | refine blk_alloc ?_ _)); exact BK249.out) hb)
                   have n6_ := Aside0.mk (blk_below (g := gb262) (o := .cells #[.int .i64 ((rd_T24 y258 x27_2).f0), .slice A261_1 ((rd_T24 y258 x27_2).f1).length c261_1] 24 (0, 0)) (by (with_reducible repeat (first | refine blk_drewN ?_ _ | refine blk_drew ?_ | refine blk_alloc ?_ _)); exact BK262.out) hb)
                   have n7_ := Aside0.mk (below_step (by repeat (first | (with_reducible first | exact HB.out | apply below_alloc | apply pw_below_drewN | apply below_drew1 | refine below_set ?_ GE228.out | refine below_set ?_ GE241.out | refine below_set ?_ GE249.out | refine below_set ?_ GE262.out) | exact HB.out)) hb)
                   clear HO_26
                   clear HO_29
                   clear HO_30
                   clear BK228
                   clear BK241
                   clear BK249
                   clear BK262
                   clear HB
                   have HO_26 := n0_
                   have HO_29 := n1_
                   have HO_30 := n2_
                   have BK228 := n3_
                   have BK241 := n4_
                   have BK249 := n5_
                   have BK262 := n6_
                   have HB := n7_
                   clear n0_ n1_ n2_ n3_ n4_ n5_ n6_ n7_
                   (try clear hb)
                   (try clear hb2)
                   (try clear hk)
                   (try clear hi)
                   refine hK.out _ _ ⟨(blk_cell BK262.out 0).trans rfl, (blk_cell BK262.out 1).trans rfl, HS2_⟩ (fun hHeld => ?_)
                   clear hK K
                   refine norm_ (a' := ?_) ?_ ?_
                   rotate_left
                   ·
                    show Act.put _ (some 154) _ = _
                    simp only [Act.put, List.setIfInBounds_toArray, List.set_cons_zero, List.set_cons_succ, i64_w, i32_w]
                    rfl
                   refine pure_ (i := 6) (N := some 148) (v := ?_) (a' := ?_) #[true, true, true, true, true, true, true, false, false, false, false, false, false] rfl rfl (any_of HT_.out (by kernel_rfl)) (fun _ _ _ h => h) (Or.inl ⟨by rfl, ?_⟩) ?_ ?_
                   rotate_left
                   ·
                    intro w'
                    go_simp
                    with_reducible rfl
                   rotate_left
                   ·
                    simp only [Act.put, List.setIfInBounds_toArray, List.set_cons_zero, List.set_cons_succ, i64_w, i32_w]
                    rfl
                   refine pure_ (i := 7) (N := some 155) (v := ?_) (a' := ?_) #[true, true, true, true, true, true, true, true, false, false, false, false, false] rfl rfl (any_of HT_.out (by kernel_rfl)) (fun _ _ _ h => h) (Or.inl ⟨by rfl, ?_⟩) ?_ ?_
                   rotate_left
                   ·
                    intro w'
                    go_simp
                    with_reducible rfl
                   rotate_left
                   ·
                    simp only [Act.put, List.setIfInBounds_toArray, List.set_cons_zero, List.set_cons_succ, i64_w, i32_w]
                    rfl
                   refine pure_ (i := 8) (N := some 156) (v := ?_) (a' := ?_) #[true, true, true, true, true, true, true, true, true, false, false, false, false] rfl rfl (any_of HT_.out (by kernel_rfl)) (fun _ _ _ h => h) (Or.inl ⟨by rfl, ?_⟩) ?_ ?_
                   rotate_left
                   ·
                    intro w'
                    go_simp
                    with_reducible rfl
                   rotate_left
                   ·
                    simp only [Act.put, List.setIfInBounds_toArray, List.set_cons_zero, List.set_cons_succ, i64_w, i32_w]
                    rfl
                   refine pure_ (i := 9) (N := some 157) (v := ?_) (a' := ?_) #[true, true, true, true, true, true, true, true, true, true, false, false, false] rfl rfl (any_of HT_.out (by kernel_rfl)) (fun _ _ _ h => h) (Or.inl ⟨by rfl, ?_⟩) ?_ ?_
                   rotate_left
                   ·
                    intro w'
                    go_simp
                    with_reducible rfl
                   rotate_left
                   ·
                    simp only [Act.put, List.setIfInBounds_toArray, List.set_cons_zero, List.set_cons_succ, i64_w, i32_w]
                    rfl
                   refine pure_ (i := 10) (N := some 38) (v := ?_) (a' := ?_) #[true, true, true, true, true, true, true, true, true, true, true, false, false] rfl rfl (any_of HT_.out (by kernel_rfl)) (fun _ _ _ h => h) (Or.inl ⟨by rfl, ?_⟩) ?_ ?_
                   rotate_left
                   ·
                    intro w'
                    go_simp
                    with_reducible rfl
                   rotate_left
                   ·
                    simp only [Act.put, List.setIfInBounds_toArray, List.set_cons_zero, List.set_cons_succ, i64_w, i32_w]
                    rfl
                   refine pure_ (i := 11) (N := some 39) (v := ?_) (a' := ?_) #[true, true, true, true, true, true, true, true, true, true, true, true, false] rfl rfl (any_of HT_.out (by kernel_rfl)) (fun _ _ _ h => h) (Or.inl ⟨by rfl, ?_⟩) ?_ ?_
                   rotate_left
                   ·
                    intro w'
                    go_simp
                    with_reducible rfl
                   rotate_left
                   ·
                    simp only [Act.put, List.setIfInBounds_toArray, List.set_cons_zero, List.set_cons_succ, i64_w, i32_w]
                    rfl
                   refine pure_ (i := 12) (N := some 40) (v := ?_) (a' := ?_) #[true, true, true, true, true, true, true, true, true, true, true, true, true] rfl rfl (any_of HT_.out (by kernel_rfl)) (fun _ _ _ h => h) (Or.inl ⟨by rfl, ?_⟩) ?_ ?_
                   rotate_left
                   ·
                    intro w'
                    go_simp
                    with_reducible rfl
                   rotate_left
                   ·
                    simp only [Act.put, List.setIfInBounds_toArray, List.set_cons_zero, List.set_cons_succ, i64_w, i32_w]
                    rfl
                   refine done_ (done_of HT_.out (by kernel_rfl)) ?_
                   try go_wp2
                   have n0_ := Aside0.mk (NX_drew HO_26.out)
                   have n1_ := Aside0.mk (Kd.R_drew HO_29.out)
                   have n2_ := Aside0.mk (Kd.R_drew HO_30.out)
                   have n3_ := Aside0.mk (blk_drew BK228.out)
                   have n4_ := Aside0.mk (blk_drew BK241.out)
                   have n5_ := Aside0.mk (blk_drew BK249.out)
                   have n6_ := Aside0.mk (blk_drew BK262.out)
                   have n7_ := Aside0.mk (below_drew1 HB.out)
                   clear HO_26
                   clear HO_29
                   clear HO_30
                   clear BK228
                   clear BK241
                   clear BK249
                   clear BK262
                   clear HB
                   have HO_26 := n0_
                   have HO_29 := n1_
                   have HO_30 := n2_
                   have BK228 := n3_
                   have BK241 := n4_
                   have BK249 := n5_
                   have BK262 := n6_
                   have HB := n7_
                   clear n0_ n1_ n2_ n3_ n4_ n5_ n6_ n7_
                   have p285 : 0 ≤ (x31_3 : Int) := of_decide_eq_true (by first | (with_reducible assumption) | assumption)
                   have q285 : x31_3 < (y270.length : Int) := of_decide_eq_true (by first | (with_reducible assumption) | assumption)
                   obtain ⟨ad285, e285, hx285_0⟩ := Kd.at_int (Kd.R_reads' HO_30.out).2.2 x31_3 p285 q285
                   obtain rfl : ad281 = ad285 := (by injection e285)
                   replace p285 := eq_true p285
                   replace q285 := eq_true q285
                   refine start_ (n := 13) (S := fun w' => w'.cell? ⟨gb262, 0, none⟩ = some (.int .i64 ((rd_T24 y258 x27_2).f0)) ∧ w'.cell? ⟨gb262, 1, none⟩ = some (.slice A261_1 ((rd_T24 y258 x27_2).f1).length c261_1) ∧ w'.cell? (ad281.add (x31_3).toNat) = some (.int .i64 (rd y270 x31_3))) (ds := []) #[false, false, false, false, false, false, false, false, false, false, false, false, false] (by kernel_rfl) rfl rfl ⟨(blk_cell BK262.out 0).trans rfl, (blk_cell BK262.out 1).trans rfl, hx285_0⟩ (fun hHeld => ?_); refine with_tabW dialtonelaw05_ClockMatchesReference.tab25 dialtonelaw05_ClockMatchesReference.bits25 (fun HT_ HW_ => ?_)
                   generalize w102.drew = w103 at HO_26 HO_29 HO_30 BK228 BK241 BK249 BK262 HB hx285_0 hHeld ⊢
                   refine pure_ (i := 1) (N := some 160) (v := ?_) (a' := ?_) #[false, true, false, false, false, false, false, false, false, false, false, false, false] rfl rfl (any_of HT_.out (by kernel_rfl)) (fun _ _ _ h => h) (Or.inl ⟨by rfl, ?_⟩) ?_ ?_
                   rotate_left
                   ·
                    intro w'
                    go_simp
                    with_reducible rfl
                   rotate_left
                   ·
                    simp only [Act.put, List.setIfInBounds_toArray, List.set_cons_zero, List.set_cons_succ, i64_w, i32_w]
                    rfl
                   refine pure_ (i := 2) (N := some 161) (v := ?_) (a' := ?_) #[false, true, true, false, false, false, false, false, false, false, false, false, false] rfl rfl (any_of HT_.out (by kernel_rfl)) (fun _ _ _ h => h) (Or.inl ⟨by rfl, ?_⟩) ?_ ?_
                   rotate_left
                   ·
                    intro w'
                    go_simp
                    with_reducible rfl
                   rotate_left
                   ·
                    simp only [Act.put, List.setIfInBounds_toArray, List.set_cons_zero, List.set_cons_succ, i64_w, i32_w]
                    rfl
                   refine pure_ (i := 3) (N := some 162) (v := ?_) (a' := ?_) #[false, true, true, true, false, false, false, false, false, false, false, false, false] rfl rfl (any_of HT_.out (by kernel_rfl)) (fun _ _ _ h => h) (Or.inl ⟨by rfl, ?_⟩) ?_ ?_
                   rotate_left
                   ·
                    intro w'
                    go_simp
                    with_reducible rfl
                   rotate_left
                   ·
                    simp only [Act.put, List.setIfInBounds_toArray, List.set_cons_zero, List.set_cons_succ, i64_w, i32_w]
                    rfl
                   refine take_ (i := 0) (N := some 159) (v := ?_) (a' := ?_) #[true, true, true, true, false, false, false, false, false, false, false, false, false] rfl rfl (take_ofW HT_.out HW_.out (by kernel_rfl)) (fun _ _ _ h => h) (Or.inl ⟨by rfl, ?_⟩) hHeld ?_ ?_
                   rotate_left
                   ·
                    rintro w' ⟨s0, s1, s2⟩
                    go_simp
                    with_reducible rfl
                   rotate_left
                   ·
                    simp only [Act.put, List.setIfInBounds_toArray, List.set_cons_zero, List.set_cons_succ, i64_w, i32_w]
                    rfl
                   refine take_ (i := 4) (N := some 163) (v := ?_) (a' := ?_) #[true, true, true, true, true, false, false, false, false, false, false, false, false] rfl rfl (take_ofW HT_.out HW_.out (by kernel_rfl)) (fun _ _ _ h => h) (Or.inl ⟨by rfl, ?_⟩) hHeld ?_ ?_
                   rotate_left
                   ·
                    rintro w' ⟨s0, s1, s2⟩
                    go_simp
                    with_reducible rfl
                   rotate_left
                   ·
                    simp only [Act.put, List.setIfInBounds_toArray, List.set_cons_zero, List.set_cons_succ, i64_w, i32_w]
                    rfl
                   refine one_ (i := 5) (N := some 164) #[true, true, true, true, true, true, false, false, false, false, false, false, false] rfl rfl (one_of HT_.out (by kernel_rfl)) (by decide) (fun K hK => ?_)
                   refine goes_ Try.func23 (by kernel_rfl) rfl #[.agg #[.int .i64 ((rd_T24 y258 x27_2).f0), .slice A261_1 ((rd_T24 y258 x27_2).f1).length c261_1], .int .i64 (rd y270 x31_3)] (by rfl) rfl rfl (by (try simp only [List.map_toArray, List.map_cons, List.map_nil]); first | done | rfl | (simp only [List.length_drop, List.length_take]; rfl)) ?_
                   with_reducible refine (dialtoneref05_Reads.calls k3 ((rd_T24 y258 x27_2).f0) _ _ ((rd_T24 y258 x27_2).f1) (rd y270 x31_3) t286 t287 t288 _ ?side1 ?side2 A93.out).mono ?_
                   (case side1 => repeat (first | exact (Kd.F_now HO_26.out.2) | (with_reducible refine Kd.C_alloc ?_ _) | (with_reducible refine Kd.C_drewN ?_ _) | (with_reducible refine Kd.C_drew ?_)))
                   (case side2 => exact HC261_1.out)
                   rintro e w104 ⟨rfl, hb⟩
                   have HS2_ := (hb.cell (World.block_lt_of_cell? _ _ (hHeld.2.2))).trans (hHeld.2.2)
                   refine ⟨_, rfl, ?_⟩
                   have n0_ := Aside0.mk (NX_below (by (with_reducible repeat (first | apply NX_alloc | apply NX_drewN | apply NX_drew)); exact HO_26.out) hb)
                   have n1_ := Aside0.mk (Kd.R_below (by (with_reducible repeat (first | apply Kd.R_alloc | apply Kd.R_drewN | apply Kd.R_drew)); exact HO_29.out) hb)
                   have n2_ := Aside0.mk (Kd.R_below (by (with_reducible repeat (first | apply Kd.R_alloc | apply Kd.R_drewN | apply Kd.R_drew)); exact HO_30.out) hb)
                   have n3_ := Aside0.mk (blk_below (g := gb228) (o := .cells #[.int .i64 a0_0, .slice A0_1 l0_1.length c0_1] 24 (0, 0)) (by (with_reducible repeat (first | refine blk_drewN ?_ _ | refine blk_drew ?_ | refine blk_alloc ?_ _)); exact BK228.out) hb)
                   have n4_ := Aside0.mk (blk_below (g := gb241) (o := .cells #[.int .i64 t238, .int .i64 t239] 32 (0, 0)) (by (with_reducible repeat (first | refine blk_drewN ?_ _ | refine blk_drew ?_ | refine blk_alloc ?_ _)); exact BK241.out) hb)
                   have n5_ := Aside0.mk (blk_below (g := gb249) (o := .cells #[.int .i64 t246, .int .i64 t247] 32 (0, 0)) (by (with_reducible repeat (first | refine blk_drewN ?_ _ | refine blk_drew ?_ | refine blk_alloc ?_ _)); exact BK249.out) hb)
                   have n6_ := Aside0.mk (blk_below (g := gb262) (o := .cells #[.int .i64 ((rd_T24 y258 x27_2).f0), .slice A261_1 ((rd_T24 y258 x27_2).f1).length c261_1] 24 (0, 0)) (by (with_reducible repeat (first | refine blk_drewN ?_ _ | refine blk_drew ?_ | refine blk_alloc ?_ _)); exact BK262.out) hb)
                   have n7_ := Aside0.mk (below_step (by repeat (first | (with_reducible first | exact HB.out | apply below_alloc | apply pw_below_drewN | apply below_drew1 | refine below_set ?_ GE228.out | refine below_set ?_ GE241.out | refine below_set ?_ GE249.out | refine below_set ?_ GE262.out) | exact HB.out)) hb)
                   clear HO_26
                   clear HO_29
                   clear HO_30
                   clear BK228
                   clear BK241
                   clear BK249
                   clear BK262
                   clear HB
                   have HO_26 := n0_
                   have HO_29 := n1_
                   have HO_30 := n2_
                   have BK228 := n3_
                   have BK241 := n4_
                   have BK249 := n5_
                   have BK262 := n6_
                   have HB := n7_
                   clear n0_ n1_ n2_ n3_ n4_ n5_ n6_ n7_
                   (try clear hb)
                   (try clear hb2)
                   (try clear hk)
                   (try clear hi)
                   refine hK.out _ _ ⟨(blk_cell BK262.out 0).trans rfl, (blk_cell BK262.out 1).trans rfl, HS2_⟩ (fun hHeld => ?_)
                   clear hK K
                   refine norm_ (a' := ?_) ?_ ?_
                   rotate_left
                   ·
                    show Act.put _ (some 164) _ = _
                    simp only [Act.put, List.setIfInBounds_toArray, List.set_cons_zero, List.set_cons_succ, i64_w, i32_w]
                    rfl
                   refine pure_ (i := 6) (N := some 158) (v := ?_) (a' := ?_) #[true, true, true, true, true, true, true, false, false, false, false, false, false] rfl rfl (any_of HT_.out (by kernel_rfl)) (fun _ _ _ h => h) (Or.inl ⟨by rfl, ?_⟩) ?_ ?_
                   rotate_left
                   ·
                    intro w'
                    go_simp
                    with_reducible rfl
                   rotate_left
                   ·
                    simp only [Act.put, List.setIfInBounds_toArray, List.set_cons_zero, List.set_cons_succ, i64_w, i32_w]
                    rfl
                   refine pure_ (i := 7) (N := some 165) (v := ?_) (a' := ?_) #[true, true, true, true, true, true, true, true, false, false, false, false, false] rfl rfl (any_of HT_.out (by kernel_rfl)) (fun _ _ _ h => h) (Or.inl ⟨by rfl, ?_⟩) ?_ ?_
                   rotate_left
                   ·
                    intro w'
                    go_simp
                    with_reducible rfl
                   rotate_left
                   ·
                    simp only [Act.put, List.setIfInBounds_toArray, List.set_cons_zero, List.set_cons_succ, i64_w, i32_w]
                    rfl
                   refine pure_ (i := 8) (N := some 166) (v := ?_) (a' := ?_) #[true, true, true, true, true, true, true, true, true, false, false, false, false] rfl rfl (any_of HT_.out (by kernel_rfl)) (fun _ _ _ h => h) (Or.inl ⟨by rfl, ?_⟩) ?_ ?_
                   rotate_left
                   ·
                    intro w'
                    go_simp
                    with_reducible rfl
                   rotate_left
                   ·
                    simp only [Act.put, List.setIfInBounds_toArray, List.set_cons_zero, List.set_cons_succ, i64_w, i32_w]
                    rfl
                   refine pure_ (i := 9) (N := some 167) (v := ?_) (a' := ?_) #[true, true, true, true, true, true, true, true, true, true, false, false, false] rfl rfl (any_of HT_.out (by kernel_rfl)) (fun _ _ _ h => h) (Or.inl ⟨by rfl, ?_⟩) ?_ ?_
                   rotate_left
                   ·
                    intro w'
                    go_simp
                    with_reducible rfl
                   rotate_left
                   ·
                    simp only [Act.put, List.setIfInBounds_toArray, List.set_cons_zero, List.set_cons_succ, i64_w, i32_w]
                    rfl
                   refine pure_ (i := 10) (N := some 41) (v := ?_) (a' := ?_) #[true, true, true, true, true, true, true, true, true, true, true, false, false] rfl rfl (any_of HT_.out (by kernel_rfl)) (fun _ _ _ h => h) (Or.inl ⟨by rfl, ?_⟩) ?_ ?_
                   rotate_left
                   ·
                    intro w'
                    go_simp
                    with_reducible rfl
                   rotate_left
                   ·
                    simp only [Act.put, List.setIfInBounds_toArray, List.set_cons_zero, List.set_cons_succ, i64_w, i32_w]
                    rfl
                   refine pure_ (i := 11) (N := some 42) (v := ?_) (a' := ?_) #[true, true, true, true, true, true, true, true, true, true, true, true, false] rfl rfl (any_of HT_.out (by kernel_rfl)) (fun _ _ _ h => h) (Or.inl ⟨by rfl, ?_⟩) ?_ ?_
                   rotate_left
                   ·
                    intro w'
                    go_simp
                    with_reducible rfl
                   rotate_left
                   ·
                    simp only [Act.put, List.setIfInBounds_toArray, List.set_cons_zero, List.set_cons_succ, i64_w, i32_w]
                    rfl
                   refine pure_ (i := 12) (N := some 43) (v := ?_) (a' := ?_) #[true, true, true, true, true, true, true, true, true, true, true, true, true] rfl rfl (any_of HT_.out (by kernel_rfl)) (fun _ _ _ h => h) (Or.inl ⟨by rfl, ?_⟩) ?_ ?_
                   rotate_left
                   ·
                    intro w'
                    go_simp
                    with_reducible rfl
                   rotate_left
                   ·
                    simp only [Act.put, List.setIfInBounds_toArray, List.set_cons_zero, List.set_cons_succ, i64_w, i32_w]
                    rfl
                   refine done_ (done_of HT_.out (by kernel_rfl)) ?_
                   go_upto_region 26 with (fail)
                   go_cut [195] (fun v195 wc => ∃ (kq : Nat) (x195_93 : Bool), v195 = .bool x195_93 ∧ Aside0 (dialtonelaw05_ClockMatchesReference.j3 kq a5 a6 true y258 x27_2 y266 y270 x31_3 x195_93 ((rd_T24 y258 x27_2).f0) ((rd_T24 y258 x27_2).f1) = some r) ∧ Aside0 (kq ≤ k3) ∧ Aside0 (NX A261_1 ((rd_T24 y258 x27_2).f1) wc w.heap.size (fun k_ => some k_ ≠ ((.slice (some ad273) y266.length co96) : Value).ownBlock ∧ some k_ ≠ ((.slice (some ad281) y270.length co101) : Value).ownBlock ∧ k_ ≠ gb228 ∧ k_ ≠ gb241 ∧ k_ ≠ gb249 ∧ k_ ≠ gb262) (.slice (some ad261) y258.length co70) y258) ∧ Aside0 (Kd.R (Kd.int .i64) 3 wc w.heap.size (fun k_ => some k_ ≠ ((.slice (some ad281) y270.length co101) : Value).ownBlock) (.slice (some ad273) y266.length co96) y266) ∧ Aside0 (Kd.R (Kd.int .i64) 3 wc w.heap.size (fun k_ => some k_ ≠ ((.slice (some ad273) y266.length co96) : Value).ownBlock) (.slice (some ad281) y270.length co101) y270) ∧ Aside0 (wc.heap[gb228]? = some (.cells #[.int .i64 a0_0, (.slice A0_1 l0_1.length c0_1)] 24 (0, 0))) ∧ Aside0 (wc.heap[gb241]? = some (.cells #[.int .i64 t238, .int .i64 t239] 32 (0, 0))) ∧ Aside0 (wc.heap[gb249]? = some (.cells #[.int .i64 t246, .int .i64 t247] 32 (0, 0))) ∧ Aside0 (wc.heap[gb262]? = some (.cells #[.int .i64 ((rd_T24 y258 x27_2).f0), (.slice A261_1 ((rd_T24 y258 x27_2).f1).length c261_1)] 24 (0, 0))) ∧ Aside0 (Below w.heap.size w wc))
                   case first =>
                    have H := HC94.out
                    clear HC94
                    by_cases c105 : t274 = t278
                    ·
                     rw [if_pos c105] at H
                     have c105b0 : (t274 == t278) = true := beq_iff_eq.mpr c105
                     have c105b1 : (t274 != t278) = false := bne_eq_false_iff_eq.mpr c105
                     clear c105
                     (first | rw [c105b0] | (simp only [i64_w, i32_w]; rw [c105b0]) | skip)
                     by_cases c106 : t275 = t279
                     ·
                      rw [if_pos c106] at H
                      have c106b0 : (t275 == t279) = true := beq_iff_eq.mpr c106
                      have c106b1 : (t275 != t279) = false := bne_eq_false_iff_eq.mpr c106
                      clear c106
                      by_cases c107 : t276 = t280
                      ·
                       rw [if_pos c107] at H
                       have c107b0 : (t276 == t280) = true := beq_iff_eq.mpr c107
                       have c107b1 : (t276 != t280) = false := bne_eq_false_iff_eq.mpr c107
                       clear c107
                       by_cases c108 : t282 = t286
                       ·
                        rw [if_pos c108] at H
                        have c108b0 : (t282 == t286) = true := beq_iff_eq.mpr c108
                        have c108b1 : (t282 != t286) = false := bne_eq_false_iff_eq.mpr c108
                        clear c108
                        by_cases c109 : t283 = t287
                        ·
                         rw [if_pos c109] at H
                         have c109b0 : (t283 == t287) = true := beq_iff_eq.mpr c109
                         have c109b1 : (t283 != t287) = false := bne_eq_false_iff_eq.mpr c109
                         clear c109
                         have H' := Aside0.mk H
                         clear H
                         go_wp2
                         go_meet
                         case rel => exact ⟨_, ((t284 != t288)), (by first | rfl | (simp; done) | (simp [*]; done)), H', ⟨by have := HJ20.out; have := HK2.out; have := HK3.out; first | omega | exact Nat.le_refl _⟩, ⟨by (with_reducible repeat (first | apply NX_alloc | apply NX_drewN | apply NX_drew)); exact HO_26.out⟩, ⟨by (with_reducible repeat (first | apply Kd.R_alloc | apply Kd.R_drewN | apply Kd.R_drew)); exact HO_29.out⟩, ⟨by (with_reducible repeat (first | apply Kd.R_alloc | apply Kd.R_drewN | apply Kd.R_drew)); exact HO_30.out⟩, ⟨by (with_reducible repeat (first | refine blk_drewN ?_ _ | refine blk_drew ?_ | refine blk_alloc ?_ _)); exact BK228.out⟩, ⟨by (with_reducible repeat (first | refine blk_drewN ?_ _ | refine blk_drew ?_ | refine blk_alloc ?_ _)); exact BK241.out⟩, ⟨by (with_reducible repeat (first | refine blk_drewN ?_ _ | refine blk_drew ?_ | refine blk_alloc ?_ _)); exact BK249.out⟩, ⟨by (with_reducible repeat (first | refine blk_drewN ?_ _ | refine blk_drew ?_ | refine blk_alloc ?_ _)); exact BK262.out⟩, ⟨by repeat (first | (with_reducible first | exact HB.out | apply below_alloc | apply pw_below_drewN | apply below_drew1 | refine below_set ?_ GE228.out | refine below_set ?_ GE241.out | refine below_set ?_ GE249.out | refine below_set ?_ GE262.out) | exact HB.out)⟩⟩
                        ·
                         rw [if_neg c109] at H
                         have c109b0 : (t283 == t287) = false := beq_eq_false_iff_ne.mpr c109
                         have c109b1 : (t283 != t287) = true := bne_iff_ne.mpr c109
                         have H' := Aside0.mk H
                         clear H
                         go_wp2
                         go_meet
                         case rel => exact ⟨_, (true), (by first | rfl | (simp; done) | (simp [*]; done)), H', ⟨by have := HJ20.out; have := HK2.out; have := HK3.out; first | omega | exact Nat.le_refl _⟩, ⟨by (with_reducible repeat (first | apply NX_alloc | apply NX_drewN | apply NX_drew)); exact HO_26.out⟩, ⟨by (with_reducible repeat (first | apply Kd.R_alloc | apply Kd.R_drewN | apply Kd.R_drew)); exact HO_29.out⟩, ⟨by (with_reducible repeat (first | apply Kd.R_alloc | apply Kd.R_drewN | apply Kd.R_drew)); exact HO_30.out⟩, ⟨by (with_reducible repeat (first | refine blk_drewN ?_ _ | refine blk_drew ?_ | refine blk_alloc ?_ _)); exact BK228.out⟩, ⟨by (with_reducible repeat (first | refine blk_drewN ?_ _ | refine blk_drew ?_ | refine blk_alloc ?_ _)); exact BK241.out⟩, ⟨by (with_reducible repeat (first | refine blk_drewN ?_ _ | refine blk_drew ?_ | refine blk_alloc ?_ _)); exact BK249.out⟩, ⟨by (with_reducible repeat (first | refine blk_drewN ?_ _ | refine blk_drew ?_ | refine blk_alloc ?_ _)); exact BK262.out⟩, ⟨by repeat (first | (with_reducible first | exact HB.out | apply below_alloc | apply pw_below_drewN | apply below_drew1 | refine below_set ?_ GE228.out | refine below_set ?_ GE241.out | refine below_set ?_ GE249.out | refine below_set ?_ GE262.out) | exact HB.out)⟩⟩
                       ·
                        rw [if_neg c108] at H
                        have c108b0 : (t282 == t286) = false := beq_eq_false_iff_ne.mpr c108
                        have c108b1 : (t282 != t286) = true := bne_iff_ne.mpr c108
                        have H' := Aside0.mk H
                        clear H
                        go_wp2
                        go_meet
                        case rel => exact ⟨_, (true), (by first | rfl | (simp; done) | (simp [*]; done)), H', ⟨by have := HJ20.out; have := HK2.out; have := HK3.out; first | omega | exact Nat.le_refl _⟩, ⟨by (with_reducible repeat (first | apply NX_alloc | apply NX_drewN | apply NX_drew)); exact HO_26.out⟩, ⟨by (with_reducible repeat (first | apply Kd.R_alloc | apply Kd.R_drewN | apply Kd.R_drew)); exact HO_29.out⟩, ⟨by (with_reducible repeat (first | apply Kd.R_alloc | apply Kd.R_drewN | apply Kd.R_drew)); exact HO_30.out⟩, ⟨by (with_reducible repeat (first | refine blk_drewN ?_ _ | refine blk_drew ?_ | refine blk_alloc ?_ _)); exact BK228.out⟩, ⟨by (with_reducible repeat (first | refine blk_drewN ?_ _ | refine blk_drew ?_ | refine blk_alloc ?_ _)); exact BK241.out⟩, ⟨by (with_reducible repeat (first | refine blk_drewN ?_ _ | refine blk_drew ?_ | refine blk_alloc ?_ _)); exact BK249.out⟩, ⟨by (with_reducible repeat (first | refine blk_drewN ?_ _ | refine blk_drew ?_ | refine blk_alloc ?_ _)); exact BK262.out⟩, ⟨by repeat (first | (with_reducible first | exact HB.out | apply below_alloc | apply pw_below_drewN | apply below_drew1 | refine below_set ?_ GE228.out | refine below_set ?_ GE241.out | refine below_set ?_ GE249.out | refine below_set ?_ GE262.out) | exact HB.out)⟩⟩
                      ·
                       rw [if_neg c107] at H
                       have c107b0 : (t276 == t280) = false := beq_eq_false_iff_ne.mpr c107
                       have c107b1 : (t276 != t280) = true := bne_iff_ne.mpr c107
                       have H' := Aside0.mk H
                       clear H
                       go_wp2
                       go_meet
                       case rel => exact ⟨_, (true), (by first | rfl | (simp; done) | (simp [*]; done)), H', ⟨by have := HJ20.out; have := HK2.out; have := HK3.out; first | omega | exact Nat.le_refl _⟩, ⟨by (with_reducible repeat (first | apply NX_alloc | apply NX_drewN | apply NX_drew)); exact HO_26.out⟩, ⟨by (with_reducible repeat (first | apply Kd.R_alloc | apply Kd.R_drewN | apply Kd.R_drew)); exact HO_29.out⟩, ⟨by (with_reducible repeat (first | apply Kd.R_alloc | apply Kd.R_drewN | apply Kd.R_drew)); exact HO_30.out⟩, ⟨by (with_reducible repeat (first | refine blk_drewN ?_ _ | refine blk_drew ?_ | refine blk_alloc ?_ _)); exact BK228.out⟩, ⟨by (with_reducible repeat (first | refine blk_drewN ?_ _ | refine blk_drew ?_ | refine blk_alloc ?_ _)); exact BK241.out⟩, ⟨by (with_reducible repeat (first | refine blk_drewN ?_ _ | refine blk_drew ?_ | refine blk_alloc ?_ _)); exact BK249.out⟩, ⟨by (with_reducible repeat (first | refine blk_drewN ?_ _ | refine blk_drew ?_ | refine blk_alloc ?_ _)); exact BK262.out⟩, ⟨by repeat (first | (with_reducible first | exact HB.out | apply below_alloc | apply pw_below_drewN | apply below_drew1 | refine below_set ?_ GE228.out | refine below_set ?_ GE241.out | refine below_set ?_ GE249.out | refine below_set ?_ GE262.out) | exact HB.out)⟩⟩
                     ·
                      rw [if_neg c106] at H
                      have c106b0 : (t275 == t279) = false := beq_eq_false_iff_ne.mpr c106
                      have c106b1 : (t275 != t279) = true := bne_iff_ne.mpr c106
                      have H' := Aside0.mk H
                      clear H
                      go_wp2
                      go_meet
                      case rel => exact ⟨_, (true), (by first | rfl | (simp; done) | (simp [*]; done)), H', ⟨by have := HJ20.out; have := HK2.out; have := HK3.out; first | omega | exact Nat.le_refl _⟩, ⟨by (with_reducible repeat (first | apply NX_alloc | apply NX_drewN | apply NX_drew)); exact HO_26.out⟩, ⟨by (with_reducible repeat (first | apply Kd.R_alloc | apply Kd.R_drewN | apply Kd.R_drew)); exact HO_29.out⟩, ⟨by (with_reducible repeat (first | apply Kd.R_alloc | apply Kd.R_drewN | apply Kd.R_drew)); exact HO_30.out⟩, ⟨by (with_reducible repeat (first | refine blk_drewN ?_ _ | refine blk_drew ?_ | refine blk_alloc ?_ _)); exact BK228.out⟩, ⟨by (with_reducible repeat (first | refine blk_drewN ?_ _ | refine blk_drew ?_ | refine blk_alloc ?_ _)); exact BK241.out⟩, ⟨by (with_reducible repeat (first | refine blk_drewN ?_ _ | refine blk_drew ?_ | refine blk_alloc ?_ _)); exact BK249.out⟩, ⟨by (with_reducible repeat (first | refine blk_drewN ?_ _ | refine blk_drew ?_ | refine blk_alloc ?_ _)); exact BK262.out⟩, ⟨by repeat (first | (with_reducible first | exact HB.out | apply below_alloc | apply pw_below_drewN | apply below_drew1 | refine below_set ?_ GE228.out | refine below_set ?_ GE241.out | refine below_set ?_ GE249.out | refine below_set ?_ GE262.out) | exact HB.out)⟩⟩
                    ·
                     rw [if_neg c105] at H
                     have c105b0 : (t274 == t278) = false := beq_eq_false_iff_ne.mpr c105
                     have c105b1 : (t274 != t278) = true := bne_iff_ne.mpr c105
                     (first | rw [c105b0] | (simp only [i64_w, i32_w]; rw [c105b0]) | skip)
                     have H' := Aside0.mk H
                     clear H
                     go_wp2
                     go_meet
                     case rel => exact ⟨_, (true), (by first | rfl | (simp; done) | (simp [*]; done)), H', ⟨by have := HJ20.out; have := HK2.out; have := HK3.out; first | omega | exact Nat.le_refl _⟩, ⟨by (with_reducible repeat (first | apply NX_alloc | apply NX_drewN | apply NX_drew)); exact HO_26.out⟩, ⟨by (with_reducible repeat (first | apply Kd.R_alloc | apply Kd.R_drewN | apply Kd.R_drew)); exact HO_29.out⟩, ⟨by (with_reducible repeat (first | apply Kd.R_alloc | apply Kd.R_drewN | apply Kd.R_drew)); exact HO_30.out⟩, ⟨by (with_reducible repeat (first | refine blk_drewN ?_ _ | refine blk_drew ?_ | refine blk_alloc ?_ _)); exact BK228.out⟩, ⟨by (with_reducible repeat (first | refine blk_drewN ?_ _ | refine blk_drew ?_ | refine blk_alloc ?_ _)); exact BK241.out⟩, ⟨by (with_reducible repeat (first | refine blk_drewN ?_ _ | refine blk_drew ?_ | refine blk_alloc ?_ _)); exact BK249.out⟩, ⟨by (with_reducible repeat (first | refine blk_drewN ?_ _ | refine blk_drew ?_ | refine blk_alloc ?_ _)); exact BK262.out⟩, ⟨by repeat (first | (with_reducible first | exact HB.out | apply below_alloc | apply pw_below_drewN | apply below_drew1 | refine below_set ?_ GE228.out | refine below_set ?_ GE241.out | refine below_set ?_ GE249.out | refine below_set ?_ GE262.out) | exact HB.out)⟩⟩
                   case rest => as_aux_lemma =>
                    clear HC94
                    try clear c1
                    try clear c2
                    try clear p2
                    try clear q2
                    try clear hx2
                    try clear c10
                    try clear c21
                    try clear c22
                    try clear c23
                    try clear c26
                    try clear p27
                    try clear q27
                    try clear hx27
                    try clear p28
                    try clear q28
                    try clear hx28
                    try clear c105
                    try clear c105b0
                    try clear c105b1
                    try clear c106
                    try clear c106b0
                    try clear c106b1
                    try clear c107
                    try clear c107b0
                    try clear c107b1
                    try clear c108
                    try clear c108b0
                    try clear c108b1
                    try clear c109
                    try clear c109b0
                    try clear c109b1
                    try clear hx277_0
                    try clear hx281_0
                    try clear hx285_0
                    try clear p277
                    try clear p281
                    try clear p285
                    try clear q277
                    try clear q281
                    try clear q285
                    obtain ⟨kq, x195_93, rfl, HA, HJ93, HO_26, HO_29, HO_30, BK228, BK241, BK249, BK262, HB⟩ := hcut
                    cases kq with
                    | zero => exact absurd HA.out (by simp [dialtonelaw05_ClockMatchesReference.j3])
                    | succ kj93 =>
                     have H := HA.out
                     clear HA
                     simp only [dialtonelaw05_ClockMatchesReference.j3] at H
                     by_cases c110 : x195_93 = true
                     ·
                      subst c110
                      have H1 : (none) = some r := by rw [if_pos rfl] at H; exact H
                      clear H
                      have H := H1
                      clear H1
                      exact absurd H (by simp)
                     ·
                      replace c110 := Bool.eq_false_iff.mpr c110
                      subst c110
                      have H1 : (if 0 ≤ x31_3 then (if x31_3 < (y266.length : Int) then (if x31_3 < (y270.length : Int) then ((clock_Before.f kj93 ((rd_T24 y258 x27_2).f0) ((rd_T24 y258 x27_2).f1) (rd y266 x31_3) (rd y270 x31_3)).bind fun t291 => ((dialtoneref05_Before.f kj93 ((rd_T24 y258 x27_2).f0) ((rd_T24 y258 x27_2).f1) (rd y266 x31_3) (rd y270 x31_3)).bind fun t294 => (if (t291 != t294) = true then (none) else ((clock_After.f kj93 ((rd_T24 y258 x27_2).f0) ((rd_T24 y258 x27_2).f1) (rd y266 x31_3) (rd y270 x31_3)).bind fun t297 => ((dialtoneref05_After.f kj93 ((rd_T24 y258 x27_2).f0) ((rd_T24 y258 x27_2).f1) (rd y266 x31_3) (rd y270 x31_3)).bind fun t300 => (if (t297 != t300) = true then (none) else (dialtonelaw05_ClockMatchesReference.l1 kj93 a5 a6 true y258 x27_2 y266 y270 (wrap64 (x31_3 + 1)) ((rd_T24 y258 x27_2).f0) ((rd_T24 y258 x27_2).f1)))))))) else (none)) else (none)) else (none)) = some r := by rw [if_neg (show ¬ (false = true) by decide)] at H; exact H
                      clear H
                      have H := H1
                      clear H1
                      by_cases c111 : 0 ≤ x31_3
                      ·
                       rw [if_pos c111] at H
                       have c111b0 : decide (0 ≤ x31_3) = true := decide_eq_true c111
                       clear c111
                       by_cases c112 : x31_3 < (y266.length : Int)
                       ·
                        rw [if_pos c112] at H
                        have c112b0 : decide (x31_3 < (y266.length : Int)) = true := decide_eq_true c112
                        clear c112
                        by_cases c113 : x31_3 < (y270.length : Int)
                        ·
                         rw [if_pos c113] at H
                         have c113b0 : decide (x31_3 < (y270.length : Int)) = true := decide_eq_true c113
                         clear c113
                         replace H := Option.bind_eq_some_iff.mp H
                         obtain ⟨t291, A1140, H⟩ := H
                         replace H : ((dialtoneref05_Before.f kj93 ((rd_T24 y258 x27_2).f0) ((rd_T24 y258 x27_2).f1) (rd y266 x31_3) (rd y270 x31_3)).bind fun t294 => (if (t291 != t294) = true then (none) else ((clock_After.f kj93 ((rd_T24 y258 x27_2).f0) ((rd_T24 y258 x27_2).f1) (rd y266 x31_3) (rd y270 x31_3)).bind fun t297 => ((dialtoneref05_After.f kj93 ((rd_T24 y258 x27_2).f0) ((rd_T24 y258 x27_2).f1) (rd y266 x31_3) (rd y270 x31_3)).bind fun t300 => (if (t297 != t300) = true then (none) else (dialtonelaw05_ClockMatchesReference.l1 kj93 a5 a6 true y258 x27_2 y266 y270 (wrap64 (x31_3 + 1)) ((rd_T24 y258 x27_2).f0) ((rd_T24 y258 x27_2).f1))))))) = some r := H
                         have A114 := Aside0.mk A1140
                         clear A1140
                         replace H := Option.bind_eq_some_iff.mp H
                         obtain ⟨t294, A1150, H⟩ := H
                         replace H : (if (t291 != t294) = true then (none) else ((clock_After.f kj93 ((rd_T24 y258 x27_2).f0) ((rd_T24 y258 x27_2).f1) (rd y266 x31_3) (rd y270 x31_3)).bind fun t297 => ((dialtoneref05_After.f kj93 ((rd_T24 y258 x27_2).f0) ((rd_T24 y258 x27_2).f1) (rd y266 x31_3) (rd y270 x31_3)).bind fun t300 => (if (t297 != t300) = true then (none) else (dialtonelaw05_ClockMatchesReference.l1 kj93 a5 a6 true y258 x27_2 y266 y270 (wrap64 (x31_3 + 1)) ((rd_T24 y258 x27_2).f0) ((rd_T24 y258 x27_2).f1)))))) = some r := H
                         have A115 := Aside0.mk A1150
                         clear A1150
                         by_cases c116 : (t291 != t294) = true
                         ·
                          rw [if_pos c116] at H
                          have c116b0 : (t291 != t294) = true := c116
                          (try (have c116b1 : decide (t291 = t294) = false := by simpa using c116))
                          (try (have c116b2 : (t291 == t294) = false := by simpa using c116))
                          (try (have c116b3 : ¬ (t291 = t294) := by simpa using c116))
                          clear c116
                          exact absurd H (by simp)
                         ·
                          rw [if_neg c116] at H
                          have c116b0 : (t291 != t294) = false := by simpa using c116
                          (try (have c116b1 : decide (t291 = t294) = true := by simpa using c116))
                          (try (have c116b2 : (t291 == t294) = true := by simpa using c116))
                          clear c116
                          replace H := Option.bind_eq_some_iff.mp H
                          obtain ⟨t297, A1170, H⟩ := H
                          replace H : ((dialtoneref05_After.f kj93 ((rd_T24 y258 x27_2).f0) ((rd_T24 y258 x27_2).f1) (rd y266 x31_3) (rd y270 x31_3)).bind fun t300 => (if (t297 != t300) = true then (none) else (dialtonelaw05_ClockMatchesReference.l1 kj93 a5 a6 true y258 x27_2 y266 y270 (wrap64 (x31_3 + 1)) ((rd_T24 y258 x27_2).f0) ((rd_T24 y258 x27_2).f1)))) = some r := H
                          have A117 := Aside0.mk A1170
                          clear A1170
                          replace H := Option.bind_eq_some_iff.mp H
                          obtain ⟨t300, A1180, H⟩ := H
                          replace H : (if (t297 != t300) = true then (none) else (dialtonelaw05_ClockMatchesReference.l1 kj93 a5 a6 true y258 x27_2 y266 y270 (wrap64 (x31_3 + 1)) ((rd_T24 y258 x27_2).f0) ((rd_T24 y258 x27_2).f1))) = some r := H
                          have A118 := Aside0.mk A1180
                          clear A1180
                          by_cases c119 : (t297 != t300) = true
                          ·
                           rw [if_pos c119] at H
                           exact absurd H (by simp)
                          ·
                           rw [if_neg c119] at H
                           have c119b0 : (t297 != t300) = false := by simpa using c119
                           (try (have c119b1 : decide (t297 = t300) = true := by simpa using c119))
                           (try (have c119b2 : (t297 == t300) = true := by simpa using c119))
                           clear c119
                           have H' := Aside0.mk H
                           clear H
                           try go_wp2
                           have n0_ := Aside0.mk (NX_drew HO_26.out)
                           have n1_ := Aside0.mk (Kd.R_drew HO_29.out)
                           have n2_ := Aside0.mk (Kd.R_drew HO_30.out)
                           have n3_ := Aside0.mk (blk_drew BK228.out)
                           have n4_ := Aside0.mk (blk_drew BK241.out)
                           have n5_ := Aside0.mk (blk_drew BK249.out)
                           have n6_ := Aside0.mk (blk_drew BK262.out)
                           have n7_ := Aside0.mk (below_drew1 HB.out)
                           clear HO_26
                           clear HO_29
                           clear HO_30
                           clear BK228
                           clear BK241
                           clear BK249
                           clear BK262
                           clear HB
                           have HO_26 := n0_
                           have HO_29 := n1_
                           have HO_30 := n2_
                           have BK228 := n3_
                           have BK241 := n4_
                           have BK249 := n5_
                           have BK262 := n6_
                           have HB := n7_
                           clear n0_ n1_ n2_ n3_ n4_ n5_ n6_ n7_
                           have p289 : 0 ≤ (x31_3 : Int) := of_decide_eq_true (by first | (with_reducible assumption) | assumption)
                           have q289 : x31_3 < (y266.length : Int) := of_decide_eq_true (by first | (with_reducible assumption) | assumption)
                           obtain ⟨ad289, e289, hx289_0⟩ := Kd.at_int (Kd.R_reads' HO_29.out).2.2 x31_3 p289 q289
                           obtain rfl : ad273 = ad289 := (by injection e289)
                           replace p289 := eq_true p289
                           replace q289 := eq_true q289
                           have p290 : 0 ≤ (x31_3 : Int) := of_decide_eq_true (by first | (with_reducible assumption) | assumption)
                           have q290 : x31_3 < (y270.length : Int) := of_decide_eq_true (by first | (with_reducible assumption) | assumption)
                           obtain ⟨ad290, e290, hx290_0⟩ := Kd.at_int (Kd.R_reads' HO_30.out).2.2 x31_3 p290 q290
                           obtain rfl : ad281 = ad290 := (by injection e290)
                           replace p290 := eq_true p290
                           replace q290 := eq_true q290
                           have p292 : 0 ≤ (x31_3 : Int) := of_decide_eq_true (by first | (with_reducible assumption) | assumption)
                           have q292 : x31_3 < (y266.length : Int) := of_decide_eq_true (by first | (with_reducible assumption) | assumption)
                           obtain ⟨ad292, e292, hx292_0⟩ := Kd.at_int (Kd.R_reads' HO_29.out).2.2 x31_3 p292 q292
                           obtain rfl : ad273 = ad292 := (by injection e292)
                           replace p292 := eq_true p292
                           replace q292 := eq_true q292
                           have p293 : 0 ≤ (x31_3 : Int) := of_decide_eq_true (by first | (with_reducible assumption) | assumption)
                           have q293 : x31_3 < (y270.length : Int) := of_decide_eq_true (by first | (with_reducible assumption) | assumption)
                           obtain ⟨ad293, e293, hx293_0⟩ := Kd.at_int (Kd.R_reads' HO_30.out).2.2 x31_3 p293 q293
                           obtain rfl : ad281 = ad293 := (by injection e293)
                           replace p293 := eq_true p293
                           replace q293 := eq_true q293
                           have p295 : 0 ≤ (x31_3 : Int) := of_decide_eq_true (by first | (with_reducible assumption) | assumption)
                           have q295 : x31_3 < (y266.length : Int) := of_decide_eq_true (by first | (with_reducible assumption) | assumption)
                           obtain ⟨ad295, e295, hx295_0⟩ := Kd.at_int (Kd.R_reads' HO_29.out).2.2 x31_3 p295 q295
                           obtain rfl : ad273 = ad295 := (by injection e295)
                           replace p295 := eq_true p295
                           replace q295 := eq_true q295
                           have p296 : 0 ≤ (x31_3 : Int) := of_decide_eq_true (by first | (with_reducible assumption) | assumption)
                           have q296 : x31_3 < (y270.length : Int) := of_decide_eq_true (by first | (with_reducible assumption) | assumption)
                           obtain ⟨ad296, e296, hx296_0⟩ := Kd.at_int (Kd.R_reads' HO_30.out).2.2 x31_3 p296 q296
                           obtain rfl : ad281 = ad296 := (by injection e296)
                           replace p296 := eq_true p296
                           replace q296 := eq_true q296
                           have p298 : 0 ≤ (x31_3 : Int) := of_decide_eq_true (by first | (with_reducible assumption) | assumption)
                           have q298 : x31_3 < (y266.length : Int) := of_decide_eq_true (by first | (with_reducible assumption) | assumption)
                           obtain ⟨ad298, e298, hx298_0⟩ := Kd.at_int (Kd.R_reads' HO_29.out).2.2 x31_3 p298 q298
                           obtain rfl : ad273 = ad298 := (by injection e298)
                           replace p298 := eq_true p298
                           replace q298 := eq_true q298
                           have p299 : 0 ≤ (x31_3 : Int) := of_decide_eq_true (by first | (with_reducible assumption) | assumption)
                           have q299 : x31_3 < (y270.length : Int) := of_decide_eq_true (by first | (with_reducible assumption) | assumption)
                           obtain ⟨ad299, e299, hx299_0⟩ := Kd.at_int (Kd.R_reads' HO_30.out).2.2 x31_3 p299 q299
                           obtain rfl : ad281 = ad299 := (by injection e299)
                           replace p299 := eq_true p299
                           replace q299 := eq_true q299
                           refine start_ (n := 44) (S := fun w' => w'.cell? ⟨gb262, 0, none⟩ = some (.int .i64 ((rd_T24 y258 x27_2).f0)) ∧ w'.cell? ⟨gb262, 1, none⟩ = some (.slice A261_1 ((rd_T24 y258 x27_2).f1).length c261_1) ∧ w'.cell? (ad273.add (x31_3).toNat) = some (.int .i64 (rd y266 x31_3)) ∧ w'.cell? (ad281.add (x31_3).toNat) = some (.int .i64 (rd y270 x31_3)) ∧ w'.cell? (ad273.add (x31_3).toNat) = some (.int .i64 (rd y266 x31_3)) ∧ w'.cell? (ad281.add (x31_3).toNat) = some (.int .i64 (rd y270 x31_3)) ∧ w'.cell? (ad273.add (x31_3).toNat) = some (.int .i64 (rd y266 x31_3)) ∧ w'.cell? (ad281.add (x31_3).toNat) = some (.int .i64 (rd y270 x31_3)) ∧ w'.cell? (ad273.add (x31_3).toNat) = some (.int .i64 (rd y266 x31_3)) ∧ w'.cell? (ad281.add (x31_3).toNat) = some (.int .i64 (rd y270 x31_3))) (ds := []) #[false, false, false, false, false, false, false, false, false, false, false, false, false, false, false, false, false, false, false, false, false, false, false, false, false, false, false, false, false, false, false, false, false, false, false, false, false, false, false, false, false, false, false, false] (by kernel_rfl) rfl rfl ⟨(blk_cell BK262.out 0).trans rfl, (blk_cell BK262.out 1).trans rfl, hx289_0, hx290_0, hx292_0, hx293_0, hx295_0, hx296_0, hx298_0, hx299_0⟩ (fun hHeld => ?_); refine with_tabW dialtonelaw05_ClockMatchesReference.tab28 dialtonelaw05_ClockMatchesReference.bits28 (fun HT_ HW_ => ?_)
                           generalize wc.drew = w120 at HO_26 HO_29 HO_30 BK228 BK241 BK249 BK262 HB hx289_0 hx290_0 hx292_0 hx293_0 hx295_0 hx296_0 hx298_0 hx299_0 hHeld ⊢
                           refine pure_ (i := 1) (N := some 197) (v := ?_) (a' := ?_) #[false, true, false, false, false, false, false, false, false, false, false, false, false, false, false, false, false, false, false, false, false, false, false, false, false, false, false, false, false, false, false, false, false, false, false, false, false, false, false, false, false, false, false, false] rfl rfl (any_of HT_.out (by kernel_rfl)) (fun _ _ _ h => h) (Or.inl ⟨by rfl, ?_⟩) ?_ ?_
                           rotate_left
                           ·
                            intro w'
                            go_simp
                            with_reducible rfl
                           rotate_left
                           ·
                            simp only [Act.put, List.setIfInBounds_toArray, List.set_cons_zero, List.set_cons_succ, i64_w, i32_w]
                            rfl
                           refine pure_ (i := 2) (N := some 198) (v := ?_) (a' := ?_) #[false, true, true, false, false, false, false, false, false, false, false, false, false, false, false, false, false, false, false, false, false, false, false, false, false, false, false, false, false, false, false, false, false, false, false, false, false, false, false, false, false, false, false, false] rfl rfl (any_of HT_.out (by kernel_rfl)) (fun _ _ _ h => h) (Or.inl ⟨by rfl, ?_⟩) ?_ ?_
                           rotate_left
                           ·
                            intro w'
                            go_simp
                            with_reducible rfl
                           rotate_left
                           ·
                            simp only [Act.put, List.setIfInBounds_toArray, List.set_cons_zero, List.set_cons_succ, i64_w, i32_w]
                            rfl
                           refine pure_ (i := 3) (N := some 199) (v := ?_) (a' := ?_) #[false, true, true, true, false, false, false, false, false, false, false, false, false, false, false, false, false, false, false, false, false, false, false, false, false, false, false, false, false, false, false, false, false, false, false, false, false, false, false, false, false, false, false, false] rfl rfl (any_of HT_.out (by kernel_rfl)) (fun _ _ _ h => h) (Or.inl ⟨by rfl, ?_⟩) ?_ ?_
                           rotate_left
                           ·
                            intro w'
                            go_simp
                            with_reducible rfl
                           rotate_left
                           ·
                            simp only [Act.put, List.setIfInBounds_toArray, List.set_cons_zero, List.set_cons_succ, i64_w, i32_w]
                            rfl
                           refine pure_ (i := 5) (N := some 201) (v := ?_) (a' := ?_) #[false, true, true, true, false, true, false, false, false, false, false, false, false, false, false, false, false, false, false, false, false, false, false, false, false, false, false, false, false, false, false, false, false, false, false, false, false, false, false, false, false, false, false, false] rfl rfl (any_of HT_.out (by kernel_rfl)) (fun _ _ _ h => h) (Or.inl ⟨by rfl, ?_⟩) ?_ ?_
                           rotate_left
                           ·
                            intro w'
                            go_simp
                            with_reducible rfl
                           rotate_left
                           ·
                            simp only [Act.put, List.setIfInBounds_toArray, List.set_cons_zero, List.set_cons_succ, i64_w, i32_w]
                            rfl
                           refine pure_ (i := 6) (N := some 202) (v := ?_) (a' := ?_) #[false, true, true, true, false, true, true, false, false, false, false, false, false, false, false, false, false, false, false, false, false, false, false, false, false, false, false, false, false, false, false, false, false, false, false, false, false, false, false, false, false, false, false, false] rfl rfl (any_of HT_.out (by kernel_rfl)) (fun _ _ _ h => h) (Or.inl ⟨by rfl, ?_⟩) ?_ ?_
                           rotate_left
                           ·
                            intro w'
                            go_simp
                            with_reducible rfl
                           rotate_left
                           ·
                            simp only [Act.put, List.setIfInBounds_toArray, List.set_cons_zero, List.set_cons_succ, i64_w, i32_w]
                            rfl
                           refine pure_ (i := 7) (N := some 203) (v := ?_) (a' := ?_) #[false, true, true, true, false, true, true, true, false, false, false, false, false, false, false, false, false, false, false, false, false, false, false, false, false, false, false, false, false, false, false, false, false, false, false, false, false, false, false, false, false, false, false, false] rfl rfl (any_of HT_.out (by kernel_rfl)) (fun _ _ _ h => h) (Or.inl ⟨by rfl, ?_⟩) ?_ ?_
                           rotate_left
                           ·
                            intro w'
                            go_simp
                            with_reducible rfl
                           rotate_left
                           ·
                            simp only [Act.put, List.setIfInBounds_toArray, List.set_cons_zero, List.set_cons_succ, i64_w, i32_w]
                            rfl
                           refine pure_ (i := 11) (N := some 207) (v := ?_) (a' := ?_) #[false, true, true, true, false, true, true, true, false, false, false, true, false, false, false, false, false, false, false, false, false, false, false, false, false, false, false, false, false, false, false, false, false, false, false, false, false, false, false, false, false, false, false, false] rfl rfl (any_of HT_.out (by kernel_rfl)) (fun _ _ _ h => h) (Or.inl ⟨by rfl, ?_⟩) ?_ ?_
                           rotate_left
                           ·
                            intro w'
                            go_simp
                            with_reducible rfl
                           rotate_left
                           ·
                            simp only [Act.put, List.setIfInBounds_toArray, List.set_cons_zero, List.set_cons_succ, i64_w, i32_w]
                            rfl
                           refine pure_ (i := 12) (N := some 208) (v := ?_) (a' := ?_) #[false, true, true, true, false, true, true, true, false, false, false, true, true, false, false, false, false, false, false, false, false, false, false, false, false, false, false, false, false, false, false, false, false, false, false, false, false, false, false, false, false, false, false, false] rfl rfl (any_of HT_.out (by kernel_rfl)) (fun _ _ _ h => h) (Or.inl ⟨by rfl, ?_⟩) ?_ ?_
                           rotate_left
                           ·
                            intro w'
                            go_simp
                            with_reducible rfl
                           rotate_left
                           ·
                            simp only [Act.put, List.setIfInBounds_toArray, List.set_cons_zero, List.set_cons_succ, i64_w, i32_w]
                            rfl
                           refine pure_ (i := 13) (N := some 209) (v := ?_) (a' := ?_) #[false, true, true, true, false, true, true, true, false, false, false, true, true, true, false, false, false, false, false, false, false, false, false, false, false, false, false, false, false, false, false, false, false, false, false, false, false, false, false, false, false, false, false, false] rfl rfl (any_of HT_.out (by kernel_rfl)) (fun _ _ _ h => h) (Or.inl ⟨by rfl, ?_⟩) ?_ ?_
                           rotate_left
                           ·
                            intro w'
                            go_simp
                            with_reducible rfl
                           rotate_left
                           ·
                            simp only [Act.put, List.setIfInBounds_toArray, List.set_cons_zero, List.set_cons_succ, i64_w, i32_w]
                            rfl
                           refine pure_ (i := 15) (N := some 211) (v := ?_) (a' := ?_) #[false, true, true, true, false, true, true, true, false, false, false, true, true, true, false, true, false, false, false, false, false, false, false, false, false, false, false, false, false, false, false, false, false, false, false, false, false, false, false, false, false, false, false, false] rfl rfl (any_of HT_.out (by kernel_rfl)) (fun _ _ _ h => h) (Or.inl ⟨by rfl, ?_⟩) ?_ ?_
                           rotate_left
                           ·
                            intro w'
                            go_simp
                            with_reducible rfl
                           rotate_left
                           ·
                            simp only [Act.put, List.setIfInBounds_toArray, List.set_cons_zero, List.set_cons_succ, i64_w, i32_w]
                            rfl
                           refine pure_ (i := 16) (N := some 212) (v := ?_) (a' := ?_) #[false, true, true, true, false, true, true, true, false, false, false, true, true, true, false, true, true, false, false, false, false, false, false, false, false, false, false, false, false, false, false, false, false, false, false, false, false, false, false, false, false, false, false, false] rfl rfl (any_of HT_.out (by kernel_rfl)) (fun _ _ _ h => h) (Or.inl ⟨by rfl, ?_⟩) ?_ ?_
                           rotate_left
                           ·
                            intro w'
                            go_simp
                            with_reducible rfl
                           rotate_left
                           ·
                            simp only [Act.put, List.setIfInBounds_toArray, List.set_cons_zero, List.set_cons_succ, i64_w, i32_w]
                            rfl
                           refine pure_ (i := 17) (N := some 213) (v := ?_) (a' := ?_) #[false, true, true, true, false, true, true, true, false, false, false, true, true, true, false, true, true, true, false, false, false, false, false, false, false, false, false, false, false, false, false, false, false, false, false, false, false, false, false, false, false, false, false, false] rfl rfl (any_of HT_.out (by kernel_rfl)) (fun _ _ _ h => h) (Or.inl ⟨by rfl, ?_⟩) ?_ ?_
                           rotate_left
                           ·
                            intro w'
                            go_simp
                            with_reducible rfl
                           rotate_left
                           ·
                            simp only [Act.put, List.setIfInBounds_toArray, List.set_cons_zero, List.set_cons_succ, i64_w, i32_w]
                            rfl
                           refine take_ (i := 0) (N := some 196) (v := ?_) (a' := ?_) #[true, true, true, true, false, true, true, true, false, false, false, true, true, true, false, true, true, true, false, false, false, false, false, false, false, false, false, false, false, false, false, false, false, false, false, false, false, false, false, false, false, false, false, false] rfl rfl (take_ofW HT_.out HW_.out (by kernel_rfl)) (fun _ _ _ h => h) (Or.inl ⟨by rfl, ?_⟩) hHeld ?_ ?_
                           rotate_left
                           ·
                            rintro w' ⟨s0, s1, s2, s3, s4, s5, s6, s7, s8, s9⟩
                            go_simp
                            with_reducible rfl
                           rotate_left
                           ·
                            simp only [Act.put, List.setIfInBounds_toArray, List.set_cons_zero, List.set_cons_succ, i64_w, i32_w]
                            rfl
                           refine take_ (i := 4) (N := some 200) (v := ?_) (a' := ?_) #[true, true, true, true, true, true, true, true, false, false, false, true, true, true, false, true, true, true, false, false, false, false, false, false, false, false, false, false, false, false, false, false, false, false, false, false, false, false, false, false, false, false, false, false] rfl rfl (take_ofW HT_.out HW_.out (by kernel_rfl)) (fun _ _ _ h => h) (Or.inl ⟨by rfl, ?_⟩) hHeld ?_ ?_
                           rotate_left
                           ·
                            rintro w' ⟨s0, s1, s2, s3, s4, s5, s6, s7, s8, s9⟩
                            go_simp
                            with_reducible rfl
                           rotate_left
                           ·
                            simp only [Act.put, List.setIfInBounds_toArray, List.set_cons_zero, List.set_cons_succ, i64_w, i32_w]
                            rfl
                           refine take_ (i := 8) (N := some 204) (v := ?_) (a' := ?_) #[true, true, true, true, true, true, true, true, true, false, false, true, true, true, false, true, true, true, false, false, false, false, false, false, false, false, false, false, false, false, false, false, false, false, false, false, false, false, false, false, false, false, false, false] rfl rfl (take_ofW HT_.out HW_.out (by kernel_rfl)) (fun _ _ _ h => h) (Or.inl ⟨by rfl, ?_⟩) hHeld ?_ ?_
                           rotate_left
                           ·
                            rintro w' ⟨s0, s1, s2, s3, s4, s5, s6, s7, s8, s9⟩
                            go_simp
                            with_reducible rfl
                           rotate_left
                           ·
                            simp only [Act.put, List.setIfInBounds_toArray, List.set_cons_zero, List.set_cons_succ, i64_w, i32_w]
                            rfl
                           refine take_ (i := 10) (N := some 206) (v := ?_) (a' := ?_) #[true, true, true, true, true, true, true, true, true, false, true, true, true, true, false, true, true, true, false, false, false, false, false, false, false, false, false, false, false, false, false, false, false, false, false, false, false, false, false, false, false, false, false, false] rfl rfl (take_ofW HT_.out HW_.out (by kernel_rfl)) (fun _ _ _ h => h) (Or.inl ⟨by rfl, ?_⟩) hHeld ?_ ?_
                           rotate_left
                           ·
                            rintro w' ⟨s0, s1, s2, s3, s4, s5, s6, s7, s8, s9⟩
                            go_simp
                            with_reducible rfl
                           rotate_left
                           ·
                            simp only [Act.put, List.setIfInBounds_toArray, List.set_cons_zero, List.set_cons_succ, i64_w, i32_w]
                            rfl
                           refine take_ (i := 14) (N := some 210) (v := ?_) (a' := ?_) #[true, true, true, true, true, true, true, true, true, false, true, true, true, true, true, true, true, true, false, false, false, false, false, false, false, false, false, false, false, false, false, false, false, false, false, false, false, false, false, false, false, false, false, false] rfl rfl (take_ofW HT_.out HW_.out (by kernel_rfl)) (fun _ _ _ h => h) (Or.inl ⟨by rfl, ?_⟩) hHeld ?_ ?_
                           rotate_left
                           ·
                            rintro w' ⟨s0, s1, s2, s3, s4, s5, s6, s7, s8, s9⟩
                            go_simp
                            with_reducible rfl
                           rotate_left
                           ·
                            simp only [Act.put, List.setIfInBounds_toArray, List.set_cons_zero, List.set_cons_succ, i64_w, i32_w]
                            rfl
                           refine take_ (i := 18) (N := some 214) (v := ?_) (a' := ?_) #[true, true, true, true, true, true, true, true, true, false, true, true, true, true, true, true, true, true, true, false, false, false, false, false, false, false, false, false, false, false, false, false, false, false, false, false, false, false, false, false, false, false, false, false] rfl rfl (take_ofW HT_.out HW_.out (by kernel_rfl)) (fun _ _ _ h => h) (Or.inl ⟨by rfl, ?_⟩) hHeld ?_ ?_
                           rotate_left
                           ·
                            rintro w' ⟨s0, s1, s2, s3, s4, s5, s6, s7, s8, s9⟩
                            go_simp
                            with_reducible rfl
                           rotate_left
                           ·
                            simp only [Act.put, List.setIfInBounds_toArray, List.set_cons_zero, List.set_cons_succ, i64_w, i32_w]
                            rfl
                           refine one_ (i := 9) (N := some 205) #[true, true, true, true, true, true, true, true, true, true, true, true, true, true, true, true, true, true, true, false, false, false, false, false, false, false, false, false, false, false, false, false, false, false, false, false, false, false, false, false, false, false, false, false] rfl rfl (one_of HT_.out (by kernel_rfl)) (by decide) (fun K hK => ?_)
                           refine goes_ Try.func24 (by kernel_rfl) rfl #[.agg #[.int .i64 ((rd_T24 y258 x27_2).f0), .slice A261_1 ((rd_T24 y258 x27_2).f1).length c261_1], .int .i64 (rd y266 x31_3), .int .i64 (rd y270 x31_3)] (by rfl) rfl rfl (by (try simp only [List.map_toArray, List.map_cons, List.map_nil]); first | done | rfl | (simp only [List.length_drop, List.length_take]; rfl)) ?_
                           with_reducible refine (clock_Before.calls kj93 ((rd_T24 y258 x27_2).f0) _ _ ((rd_T24 y258 x27_2).f1) (rd y266 x31_3) (rd y270 x31_3) t291 _ ?side1 ?side2 A114.out).mono ?_
                           (case side1 => repeat (first | exact (Kd.F_now HO_26.out.2) | (with_reducible refine Kd.C_alloc ?_ _) | (with_reducible refine Kd.C_drewN ?_ _) | (with_reducible refine Kd.C_drew ?_)))
                           (case side2 => exact HC261_1.out)
                           rintro e w121 ⟨rfl, hb⟩
                           have HS2_ := (hb.cell (World.block_lt_of_cell? _ _ (hHeld.2.2.1))).trans (hHeld.2.2.1)
                           have HS3_ := (hb.cell (World.block_lt_of_cell? _ _ (hHeld.2.2.2.1))).trans (hHeld.2.2.2.1)
                           have HS4_ := (hb.cell (World.block_lt_of_cell? _ _ (hHeld.2.2.2.2.1))).trans (hHeld.2.2.2.2.1)
                           have HS5_ := (hb.cell (World.block_lt_of_cell? _ _ (hHeld.2.2.2.2.2.1))).trans (hHeld.2.2.2.2.2.1)
                           have HS6_ := (hb.cell (World.block_lt_of_cell? _ _ (hHeld.2.2.2.2.2.2.1))).trans (hHeld.2.2.2.2.2.2.1)
                           have HS7_ := (hb.cell (World.block_lt_of_cell? _ _ (hHeld.2.2.2.2.2.2.2.1))).trans (hHeld.2.2.2.2.2.2.2.1)
                           have HS8_ := (hb.cell (World.block_lt_of_cell? _ _ (hHeld.2.2.2.2.2.2.2.2.1))).trans (hHeld.2.2.2.2.2.2.2.2.1)
                           have HS9_ := (hb.cell (World.block_lt_of_cell? _ _ (hHeld.2.2.2.2.2.2.2.2.2))).trans (hHeld.2.2.2.2.2.2.2.2.2)
                           refine ⟨_, rfl, ?_⟩
                           have n0_ := Aside0.mk (NX_below (by (with_reducible repeat (first | apply NX_alloc | apply NX_drewN | apply NX_drew)); exact HO_26.out) hb)
                           have n1_ := Aside0.mk (Kd.R_below (by (with_reducible repeat (first | apply Kd.R_alloc | apply Kd.R_drewN | apply Kd.R_drew)); exact HO_29.out) hb)
                           have n2_ := Aside0.mk (Kd.R_below (by (with_reducible repeat (first | apply Kd.R_alloc | apply Kd.R_drewN | apply Kd.R_drew)); exact HO_30.out) hb)
                           have n3_ := Aside0.mk (blk_below (g := gb228) (o := .cells #[.int .i64 a0_0, .slice A0_1 l0_1.length c0_1] 24 (0, 0)) (by (with_reducible repeat (first | refine blk_drewN ?_ _ | refine blk_drew ?_ | refine blk_alloc ?_ _)); exact BK228.out) hb)
                           have n4_ := Aside0.mk (blk_below (g := gb241) (o := .cells #[.int .i64 t238, .int .i64 t239] 32 (0, 0)) (by (with_reducible repeat (first | refine blk_drewN ?_ _ | refine blk_drew ?_ | refine blk_alloc ?_ _)); exact BK241.out) hb)
                           have n5_ := Aside0.mk (blk_below (g := gb249) (o := .cells #[.int .i64 t246, .int .i64 t247] 32 (0, 0)) (by (with_reducible repeat (first | refine blk_drewN ?_ _ | refine blk_drew ?_ | refine blk_alloc ?_ _)); exact BK249.out) hb)
                           have n6_ := Aside0.mk (blk_below (g := gb262) (o := .cells #[.int .i64 ((rd_T24 y258 x27_2).f0), .slice A261_1 ((rd_T24 y258 x27_2).f1).length c261_1] 24 (0, 0)) (by (with_reducible repeat (first | refine blk_drewN ?_ _ | refine blk_drew ?_ | refine blk_alloc ?_ _)); exact BK262.out) hb)
                           have n7_ := Aside0.mk (below_step (by repeat (first | (with_reducible first | exact HB.out | apply below_alloc | apply pw_below_drewN | apply below_drew1 | refine below_set ?_ GE228.out | refine below_set ?_ GE241.out | refine below_set ?_ GE249.out | refine below_set ?_ GE262.out) | exact HB.out)) hb)
                           clear HO_26
                           clear HO_29
                           clear HO_30
                           clear BK228
                           clear BK241
                           clear BK249
                           clear BK262
                           clear HB
                           have HO_26 := n0_
                           have HO_29 := n1_
                           have HO_30 := n2_
                           have BK228 := n3_
                           have BK241 := n4_
                           have BK249 := n5_
                           have BK262 := n6_
                           have HB := n7_
                           clear n0_ n1_ n2_ n3_ n4_ n5_ n6_ n7_
                           (try clear hb)
                           (try clear hb2)
                           (try clear hk)
                           (try clear hi)
                           refine hK.out _ _ ⟨(blk_cell BK262.out 0).trans rfl, (blk_cell BK262.out 1).trans rfl, HS2_, HS3_, HS4_, HS5_, HS6_, HS7_, HS8_, HS9_⟩ (fun hHeld => ?_)
                           clear hK K
                           refine norm_ (a' := ?_) ?_ ?_
                           rotate_left
                           ·
                            show Act.put _ (some 205) _ = _
                            simp only [Act.put, List.setIfInBounds_toArray, List.set_cons_zero, List.set_cons_succ, i64_w, i32_w]
                            rfl
                           refine one_ (i := 19) (N := some 215) #[true, true, true, true, true, true, true, true, true, true, true, true, true, true, true, true, true, true, true, true, false, false, false, false, false, false, false, false, false, false, false, false, false, false, false, false, false, false, false, false, false, false, false, false] rfl rfl (one_of HT_.out (by kernel_rfl)) (by decide) (fun K hK => ?_)
                           refine goes_ Try.func25 (by kernel_rfl) rfl #[.agg #[.int .i64 ((rd_T24 y258 x27_2).f0), .slice A261_1 ((rd_T24 y258 x27_2).f1).length c261_1], .int .i64 (rd y266 x31_3), .int .i64 (rd y270 x31_3)] (by rfl) rfl rfl (by (try simp only [List.map_toArray, List.map_cons, List.map_nil]); first | done | rfl | (simp only [List.length_drop, List.length_take]; rfl)) ?_
                           with_reducible refine (dialtoneref05_Before.calls kj93 ((rd_T24 y258 x27_2).f0) _ _ ((rd_T24 y258 x27_2).f1) (rd y266 x31_3) (rd y270 x31_3) t294 _ ?side1 ?side2 A115.out).mono ?_
                           (case side1 => repeat (first | exact (Kd.F_now HO_26.out.2) | (with_reducible refine Kd.C_alloc ?_ _) | (with_reducible refine Kd.C_drewN ?_ _) | (with_reducible refine Kd.C_drew ?_)))
                           (case side2 => exact HC261_1.out)
                           rintro e w122 ⟨rfl, hb⟩
                           have HS2_ := (hb.cell (World.block_lt_of_cell? _ _ (hHeld.2.2.1))).trans (hHeld.2.2.1)
                           have HS3_ := (hb.cell (World.block_lt_of_cell? _ _ (hHeld.2.2.2.1))).trans (hHeld.2.2.2.1)
                           have HS4_ := (hb.cell (World.block_lt_of_cell? _ _ (hHeld.2.2.2.2.1))).trans (hHeld.2.2.2.2.1)
                           have HS5_ := (hb.cell (World.block_lt_of_cell? _ _ (hHeld.2.2.2.2.2.1))).trans (hHeld.2.2.2.2.2.1)
                           have HS6_ := (hb.cell (World.block_lt_of_cell? _ _ (hHeld.2.2.2.2.2.2.1))).trans (hHeld.2.2.2.2.2.2.1)
                           have HS7_ := (hb.cell (World.block_lt_of_cell? _ _ (hHeld.2.2.2.2.2.2.2.1))).trans (hHeld.2.2.2.2.2.2.2.1)
                           have HS8_ := (hb.cell (World.block_lt_of_cell? _ _ (hHeld.2.2.2.2.2.2.2.2.1))).trans (hHeld.2.2.2.2.2.2.2.2.1)
                           have HS9_ := (hb.cell (World.block_lt_of_cell? _ _ (hHeld.2.2.2.2.2.2.2.2.2))).trans (hHeld.2.2.2.2.2.2.2.2.2)
                           refine ⟨_, rfl, ?_⟩
                           have n0_ := Aside0.mk (NX_below (by (with_reducible repeat (first | apply NX_alloc | apply NX_drewN | apply NX_drew)); exact HO_26.out) hb)
                           have n1_ := Aside0.mk (Kd.R_below (by (with_reducible repeat (first | apply Kd.R_alloc | apply Kd.R_drewN | apply Kd.R_drew)); exact HO_29.out) hb)
                           have n2_ := Aside0.mk (Kd.R_below (by (with_reducible repeat (first | apply Kd.R_alloc | apply Kd.R_drewN | apply Kd.R_drew)); exact HO_30.out) hb)
                           have n3_ := Aside0.mk (blk_below (g := gb228) (o := .cells #[.int .i64 a0_0, .slice A0_1 l0_1.length c0_1] 24 (0, 0)) (by (with_reducible repeat (first | refine blk_drewN ?_ _ | refine blk_drew ?_ | refine blk_alloc ?_ _)); exact BK228.out) hb)
                           have n4_ := Aside0.mk (blk_below (g := gb241) (o := .cells #[.int .i64 t238, .int .i64 t239] 32 (0, 0)) (by (with_reducible repeat (first | refine blk_drewN ?_ _ | refine blk_drew ?_ | refine blk_alloc ?_ _)); exact BK241.out) hb)
                           have n5_ := Aside0.mk (blk_below (g := gb249) (o := .cells #[.int .i64 t246, .int .i64 t247] 32 (0, 0)) (by (with_reducible repeat (first | refine blk_drewN ?_ _ | refine blk_drew ?_ | refine blk_alloc ?_ _)); exact BK249.out) hb)
                           have n6_ := Aside0.mk (blk_below (g := gb262) (o := .cells #[.int .i64 ((rd_T24 y258 x27_2).f0), .slice A261_1 ((rd_T24 y258 x27_2).f1).length c261_1] 24 (0, 0)) (by (with_reducible repeat (first | refine blk_drewN ?_ _ | refine blk_drew ?_ | refine blk_alloc ?_ _)); exact BK262.out) hb)
                           have n7_ := Aside0.mk (below_step (by repeat (first | (with_reducible first | exact HB.out | apply below_alloc | apply pw_below_drewN | apply below_drew1 | refine below_set ?_ GE228.out | refine below_set ?_ GE241.out | refine below_set ?_ GE249.out | refine below_set ?_ GE262.out) | exact HB.out)) hb)
                           clear HO_26
                           clear HO_29
                           clear HO_30
                           clear BK228
                           clear BK241
                           clear BK249
                           clear BK262
                           clear HB
                           have HO_26 := n0_
                           have HO_29 := n1_
                           have HO_30 := n2_
                           have BK228 := n3_
                           have BK241 := n4_
                           have BK249 := n5_
                           have BK262 := n6_
                           have HB := n7_
                           clear n0_ n1_ n2_ n3_ n4_ n5_ n6_ n7_
                           (try clear hb)
                           (try clear hb2)
                           (try clear hk)
                           (try clear hi)
                           refine hK.out _ _ ⟨(blk_cell BK262.out 0).trans rfl, (blk_cell BK262.out 1).trans rfl, HS2_, HS3_, HS4_, HS5_, HS6_, HS7_, HS8_, HS9_⟩ (fun hHeld => ?_)
                           clear hK K
                           refine norm_ (a' := ?_) ?_ ?_
                           rotate_left
                           ·
                            show Act.put _ (some 215) _ = _
                            simp only [Act.put, List.setIfInBounds_toArray, List.set_cons_zero, List.set_cons_succ, i64_w, i32_w]
                            rfl
                           refine pure_ (i := 20) (N := some 216) (v := ?_) (a' := ?_) #[true, true, true, true, true, true, true, true, true, true, true, true, true, true, true, true, true, true, true, true, true, false, false, false, false, false, false, false, false, false, false, false, false, false, false, false, false, false, false, false, false, false, false, false] rfl rfl (any_of HT_.out (by kernel_rfl)) (fun _ _ _ h => h) (Or.inl ⟨by rfl, ?_⟩) ?_ ?_
                           rotate_left
                           ·
                            intro w'
                            go_simp
                            with_reducible rfl
                           rotate_left
                           ·
                            simp only [Act.put, List.setIfInBounds_toArray, List.set_cons_zero, List.set_cons_succ, i64_w, i32_w]
                            rfl
                           refine pure_ (i := 21) (N := some 217) (v := ?_) (a' := ?_) #[true, true, true, true, true, true, true, true, true, true, true, true, true, true, true, true, true, true, true, true, true, true, false, false, false, false, false, false, false, false, false, false, false, false, false, false, false, false, false, false, false, false, false, false] rfl rfl (any_of HT_.out (by kernel_rfl)) (fun _ _ _ h => h) (Or.inl ⟨by rfl, ?_⟩) ?_ ?_
                           rotate_left
                           ·
                            intro w'
                            go_simp
                            with_reducible rfl
                           rotate_left
                           ·
                            simp only [Act.put, List.setIfInBounds_toArray, List.set_cons_zero, List.set_cons_succ, i64_w, i32_w]
                            rfl
                           refine pure_ (i := 23) (N := some 219) (v := ?_) (a' := ?_) #[true, true, true, true, true, true, true, true, true, true, true, true, true, true, true, true, true, true, true, true, true, true, false, true, false, false, false, false, false, false, false, false, false, false, false, false, false, false, false, false, false, false, false, false] rfl rfl (any_of HT_.out (by kernel_rfl)) (fun _ _ _ h => h) (Or.inl ⟨by rfl, ?_⟩) ?_ ?_
                           rotate_left
                           ·
                            intro w'
                            go_simp
                            with_reducible rfl
                           rotate_left
                           ·
                            simp only [Act.put, List.setIfInBounds_toArray, List.set_cons_zero, List.set_cons_succ, i64_w, i32_w]
                            rfl
                           refine pure_ (i := 24) (N := some 220) (v := ?_) (a' := ?_) #[true, true, true, true, true, true, true, true, true, true, true, true, true, true, true, true, true, true, true, true, true, true, false, true, true, false, false, false, false, false, false, false, false, false, false, false, false, false, false, false, false, false, false, false] rfl rfl (any_of HT_.out (by kernel_rfl)) (fun _ _ _ h => h) (Or.inl ⟨by rfl, ?_⟩) ?_ ?_
                           rotate_left
                           ·
                            intro w'
                            go_simp
                            with_reducible rfl
                           rotate_left
                           ·
                            simp only [Act.put, List.setIfInBounds_toArray, List.set_cons_zero, List.set_cons_succ, i64_w, i32_w]
                            rfl
                           refine pure_ (i := 25) (N := some 221) (v := ?_) (a' := ?_) #[true, true, true, true, true, true, true, true, true, true, true, true, true, true, true, true, true, true, true, true, true, true, false, true, true, true, false, false, false, false, false, false, false, false, false, false, false, false, false, false, false, false, false, false] rfl rfl (any_of HT_.out (by kernel_rfl)) (fun _ _ _ h => h) (Or.inl ⟨by rfl, ?_⟩) ?_ ?_
                           rotate_left
                           ·
                            intro w'
                            go_simp
                            with_reducible rfl
                           rotate_left
                           ·
                            simp only [Act.put, List.setIfInBounds_toArray, List.set_cons_zero, List.set_cons_succ, i64_w, i32_w]
                            rfl
                           refine pure_ (i := 27) (N := some 223) (v := ?_) (a' := ?_) #[true, true, true, true, true, true, true, true, true, true, true, true, true, true, true, true, true, true, true, true, true, true, false, true, true, true, false, true, false, false, false, false, false, false, false, false, false, false, false, false, false, false, false, false] rfl rfl (any_of HT_.out (by kernel_rfl)) (fun _ _ _ h => h) (Or.inl ⟨by rfl, ?_⟩) ?_ ?_
                           rotate_left
                           ·
                            intro w'
                            go_simp
                            with_reducible rfl
                           rotate_left
                           ·
                            simp only [Act.put, List.setIfInBounds_toArray, List.set_cons_zero, List.set_cons_succ, i64_w, i32_w]
                            rfl
                           refine pure_ (i := 28) (N := some 224) (v := ?_) (a' := ?_) #[true, true, true, true, true, true, true, true, true, true, true, true, true, true, true, true, true, true, true, true, true, true, false, true, true, true, false, true, true, false, false, false, false, false, false, false, false, false, false, false, false, false, false, false] rfl rfl (any_of HT_.out (by kernel_rfl)) (fun _ _ _ h => h) (Or.inl ⟨by rfl, ?_⟩) ?_ ?_
                           rotate_left
                           ·
                            intro w'
                            go_simp
                            with_reducible rfl
                           rotate_left
                           ·
                            simp only [Act.put, List.setIfInBounds_toArray, List.set_cons_zero, List.set_cons_succ, i64_w, i32_w]
                            rfl
                           refine pure_ (i := 29) (N := some 225) (v := ?_) (a' := ?_) #[true, true, true, true, true, true, true, true, true, true, true, true, true, true, true, true, true, true, true, true, true, true, false, true, true, true, false, true, true, true, false, false, false, false, false, false, false, false, false, false, false, false, false, false] rfl rfl (any_of HT_.out (by kernel_rfl)) (fun _ _ _ h => h) (Or.inl ⟨by rfl, ?_⟩) ?_ ?_
                           rotate_left
                           ·
                            intro w'
                            go_simp
                            with_reducible rfl
                           rotate_left
                           ·
                            simp only [Act.put, List.setIfInBounds_toArray, List.set_cons_zero, List.set_cons_succ, i64_w, i32_w]
                            rfl
                           refine pure_ (i := 33) (N := some 229) (v := ?_) (a' := ?_) #[true, true, true, true, true, true, true, true, true, true, true, true, true, true, true, true, true, true, true, true, true, true, false, true, true, true, false, true, true, true, false, false, false, true, false, false, false, false, false, false, false, false, false, false] rfl rfl (any_of HT_.out (by kernel_rfl)) (fun _ _ _ h => h) (Or.inl ⟨by rfl, ?_⟩) ?_ ?_
                           rotate_left
                           ·
                            intro w'
                            go_simp
                            with_reducible rfl
                           rotate_left
                           ·
                            simp only [Act.put, List.setIfInBounds_toArray, List.set_cons_zero, List.set_cons_succ, i64_w, i32_w]
                            rfl
                           refine pure_ (i := 34) (N := some 230) (v := ?_) (a' := ?_) #[true, true, true, true, true, true, true, true, true, true, true, true, true, true, true, true, true, true, true, true, true, true, false, true, true, true, false, true, true, true, false, false, false, true, true, false, false, false, false, false, false, false, false, false] rfl rfl (any_of HT_.out (by kernel_rfl)) (fun _ _ _ h => h) (Or.inl ⟨by rfl, ?_⟩) ?_ ?_
                           rotate_left
                           ·
                            intro w'
                            go_simp
                            with_reducible rfl
                           rotate_left
                           ·
                            simp only [Act.put, List.setIfInBounds_toArray, List.set_cons_zero, List.set_cons_succ, i64_w, i32_w]
                            rfl
                           refine pure_ (i := 35) (N := some 231) (v := ?_) (a' := ?_) #[true, true, true, true, true, true, true, true, true, true, true, true, true, true, true, true, true, true, true, true, true, true, false, true, true, true, false, true, true, true, false, false, false, true, true, true, false, false, false, false, false, false, false, false] rfl rfl (any_of HT_.out (by kernel_rfl)) (fun _ _ _ h => h) (Or.inl ⟨by rfl, ?_⟩) ?_ ?_
                           rotate_left
                           ·
                            intro w'
                            go_simp
                            with_reducible rfl
                           rotate_left
                           ·
                            simp only [Act.put, List.setIfInBounds_toArray, List.set_cons_zero, List.set_cons_succ, i64_w, i32_w]
                            rfl
                           refine pure_ (i := 37) (N := some 233) (v := ?_) (a' := ?_) #[true, true, true, true, true, true, true, true, true, true, true, true, true, true, true, true, true, true, true, true, true, true, false, true, true, true, false, true, true, true, false, false, false, true, true, true, false, true, false, false, false, false, false, false] rfl rfl (any_of HT_.out (by kernel_rfl)) (fun _ _ _ h => h) (Or.inl ⟨by rfl, ?_⟩) ?_ ?_
                           rotate_left
                           ·
                            intro w'
                            go_simp
                            with_reducible rfl
                           rotate_left
                           ·
                            simp only [Act.put, List.setIfInBounds_toArray, List.set_cons_zero, List.set_cons_succ, i64_w, i32_w]
                            rfl
                           refine pure_ (i := 38) (N := some 234) (v := ?_) (a' := ?_) #[true, true, true, true, true, true, true, true, true, true, true, true, true, true, true, true, true, true, true, true, true, true, false, true, true, true, false, true, true, true, false, false, false, true, true, true, false, true, true, false, false, false, false, false] rfl rfl (any_of HT_.out (by kernel_rfl)) (fun _ _ _ h => h) (Or.inl ⟨by rfl, ?_⟩) ?_ ?_
                           rotate_left
                           ·
                            intro w'
                            go_simp
                            with_reducible rfl
                           rotate_left
                           ·
                            simp only [Act.put, List.setIfInBounds_toArray, List.set_cons_zero, List.set_cons_succ, i64_w, i32_w]
                            rfl
                           refine pure_ (i := 39) (N := some 235) (v := ?_) (a' := ?_) #[true, true, true, true, true, true, true, true, true, true, true, true, true, true, true, true, true, true, true, true, true, true, false, true, true, true, false, true, true, true, false, false, false, true, true, true, false, true, true, true, false, false, false, false] rfl rfl (any_of HT_.out (by kernel_rfl)) (fun _ _ _ h => h) (Or.inl ⟨by rfl, ?_⟩) ?_ ?_
                           rotate_left
                           ·
                            intro w'
                            go_simp
                            with_reducible rfl
                           rotate_left
                           ·
                            simp only [Act.put, List.setIfInBounds_toArray, List.set_cons_zero, List.set_cons_succ, i64_w, i32_w]
                            rfl
                           refine take_ (i := 22) (N := some 218) (v := ?_) (a' := ?_) #[true, true, true, true, true, true, true, true, true, true, true, true, true, true, true, true, true, true, true, true, true, true, true, true, true, true, false, true, true, true, false, false, false, true, true, true, false, true, true, true, false, false, false, false] rfl rfl (take_ofW HT_.out HW_.out (by kernel_rfl)) (fun _ _ _ h => h) (Or.inl ⟨by rfl, ?_⟩) hHeld ?_ ?_
                           rotate_left
                           ·
                            rintro w' ⟨s0, s1, s2, s3, s4, s5, s6, s7, s8, s9⟩
                            go_simp
                            with_reducible rfl
                           rotate_left
                           ·
                            simp only [Act.put, List.setIfInBounds_toArray, List.set_cons_zero, List.set_cons_succ, i64_w, i32_w]
                            rfl
                           refine take_ (i := 26) (N := some 222) (v := ?_) (a' := ?_) #[true, true, true, true, true, true, true, true, true, true, true, true, true, true, true, true, true, true, true, true, true, true, true, true, true, true, true, true, true, true, false, false, false, true, true, true, false, true, true, true, false, false, false, false] rfl rfl (take_ofW HT_.out HW_.out (by kernel_rfl)) (fun _ _ _ h => h) (Or.inl ⟨by rfl, ?_⟩) hHeld ?_ ?_
                           rotate_left
                           ·
                            rintro w' ⟨s0, s1, s2, s3, s4, s5, s6, s7, s8, s9⟩
                            go_simp
                            with_reducible rfl
                           rotate_left
                           ·
                            simp only [Act.put, List.setIfInBounds_toArray, List.set_cons_zero, List.set_cons_succ, i64_w, i32_w]
                            rfl
                           refine take_ (i := 30) (N := some 226) (v := ?_) (a' := ?_) #[true, true, true, true, true, true, true, true, true, true, true, true, true, true, true, true, true, true, true, true, true, true, true, true, true, true, true, true, true, true, true, false, false, true, true, true, false, true, true, true, false, false, false, false] rfl rfl (take_ofW HT_.out HW_.out (by kernel_rfl)) (fun _ _ _ h => h) (Or.inl ⟨by rfl, ?_⟩) hHeld ?_ ?_
                           rotate_left
                           ·
                            rintro w' ⟨s0, s1, s2, s3, s4, s5, s6, s7, s8, s9⟩
                            go_simp
                            with_reducible rfl
                           rotate_left
                           ·
                            simp only [Act.put, List.setIfInBounds_toArray, List.set_cons_zero, List.set_cons_succ, i64_w, i32_w]
                            rfl
                           refine take_ (i := 32) (N := some 228) (v := ?_) (a' := ?_) #[true, true, true, true, true, true, true, true, true, true, true, true, true, true, true, true, true, true, true, true, true, true, true, true, true, true, true, true, true, true, true, false, true, true, true, true, false, true, true, true, false, false, false, false] rfl rfl (take_ofW HT_.out HW_.out (by kernel_rfl)) (fun _ _ _ h => h) (Or.inl ⟨by rfl, ?_⟩) hHeld ?_ ?_
                           rotate_left
                           ·
                            rintro w' ⟨s0, s1, s2, s3, s4, s5, s6, s7, s8, s9⟩
                            go_simp
                            with_reducible rfl
                           rotate_left
                           ·
                            simp only [Act.put, List.setIfInBounds_toArray, List.set_cons_zero, List.set_cons_succ, i64_w, i32_w]
                            rfl
                           refine take_ (i := 36) (N := some 232) (v := ?_) (a' := ?_) #[true, true, true, true, true, true, true, true, true, true, true, true, true, true, true, true, true, true, true, true, true, true, true, true, true, true, true, true, true, true, true, false, true, true, true, true, true, true, true, true, false, false, false, false] rfl rfl (take_ofW HT_.out HW_.out (by kernel_rfl)) (fun _ _ _ h => h) (Or.inl ⟨by rfl, ?_⟩) hHeld ?_ ?_
                           rotate_left
                           ·
                            rintro w' ⟨s0, s1, s2, s3, s4, s5, s6, s7, s8, s9⟩
                            go_simp
                            with_reducible rfl
                           rotate_left
                           ·
                            simp only [Act.put, List.setIfInBounds_toArray, List.set_cons_zero, List.set_cons_succ, i64_w, i32_w]
                            rfl
                           refine take_ (i := 40) (N := some 236) (v := ?_) (a' := ?_) #[true, true, true, true, true, true, true, true, true, true, true, true, true, true, true, true, true, true, true, true, true, true, true, true, true, true, true, true, true, true, true, false, true, true, true, true, true, true, true, true, true, false, false, false] rfl rfl (take_ofW HT_.out HW_.out (by kernel_rfl)) (fun _ _ _ h => h) (Or.inl ⟨by rfl, ?_⟩) hHeld ?_ ?_
                           rotate_left
                           ·
                            rintro w' ⟨s0, s1, s2, s3, s4, s5, s6, s7, s8, s9⟩
                            go_simp
                            with_reducible rfl
                           rotate_left
                           ·
                            simp only [Act.put, List.setIfInBounds_toArray, List.set_cons_zero, List.set_cons_succ, i64_w, i32_w]
                            rfl
                           refine one_ (i := 31) (N := some 227) #[true, true, true, true, true, true, true, true, true, true, true, true, true, true, true, true, true, true, true, true, true, true, true, true, true, true, true, true, true, true, true, true, true, true, true, true, true, true, true, true, true, false, false, false] rfl rfl (one_of HT_.out (by kernel_rfl)) (by decide) (fun K hK => ?_)
                           refine goes_ Try.func26 (by kernel_rfl) rfl #[.agg #[.int .i64 ((rd_T24 y258 x27_2).f0), .slice A261_1 ((rd_T24 y258 x27_2).f1).length c261_1], .int .i64 (rd y266 x31_3), .int .i64 (rd y270 x31_3)] (by rfl) rfl rfl (by (try simp only [List.map_toArray, List.map_cons, List.map_nil]); first | done | rfl | (simp only [List.length_drop, List.length_take]; rfl)) ?_
                           with_reducible refine (clock_After.calls kj93 ((rd_T24 y258 x27_2).f0) _ _ ((rd_T24 y258 x27_2).f1) (rd y266 x31_3) (rd y270 x31_3) t297 _ ?side1 ?side2 A117.out).mono ?_
                           (case side1 => repeat (first | exact (Kd.F_now HO_26.out.2) | (with_reducible refine Kd.C_alloc ?_ _) | (with_reducible refine Kd.C_drewN ?_ _) | (with_reducible refine Kd.C_drew ?_)))
                           (case side2 => exact HC261_1.out)
                           rintro e w123 ⟨rfl, hb⟩
                           have HS2_ := (hb.cell (World.block_lt_of_cell? _ _ (hHeld.2.2.1))).trans (hHeld.2.2.1)
                           have HS3_ := (hb.cell (World.block_lt_of_cell? _ _ (hHeld.2.2.2.1))).trans (hHeld.2.2.2.1)
                           have HS4_ := (hb.cell (World.block_lt_of_cell? _ _ (hHeld.2.2.2.2.1))).trans (hHeld.2.2.2.2.1)
                           have HS5_ := (hb.cell (World.block_lt_of_cell? _ _ (hHeld.2.2.2.2.2.1))).trans (hHeld.2.2.2.2.2.1)
                           have HS6_ := (hb.cell (World.block_lt_of_cell? _ _ (hHeld.2.2.2.2.2.2.1))).trans (hHeld.2.2.2.2.2.2.1)
                           have HS7_ := (hb.cell (World.block_lt_of_cell? _ _ (hHeld.2.2.2.2.2.2.2.1))).trans (hHeld.2.2.2.2.2.2.2.1)
                           have HS8_ := (hb.cell (World.block_lt_of_cell? _ _ (hHeld.2.2.2.2.2.2.2.2.1))).trans (hHeld.2.2.2.2.2.2.2.2.1)
                           have HS9_ := (hb.cell (World.block_lt_of_cell? _ _ (hHeld.2.2.2.2.2.2.2.2.2))).trans (hHeld.2.2.2.2.2.2.2.2.2)
                           refine ⟨_, rfl, ?_⟩
                           have n0_ := Aside0.mk (NX_below (by (with_reducible repeat (first | apply NX_alloc | apply NX_drewN | apply NX_drew)); exact HO_26.out) hb)
                           have n1_ := Aside0.mk (Kd.R_below (by (with_reducible repeat (first | apply Kd.R_alloc | apply Kd.R_drewN | apply Kd.R_drew)); exact HO_29.out) hb)
                           have n2_ := Aside0.mk (Kd.R_below (by (with_reducible repeat (first | apply Kd.R_alloc | apply Kd.R_drewN | apply Kd.R_drew)); exact HO_30.out) hb)
                           have n3_ := Aside0.mk (blk_below (g := gb228) (o := .cells #[.int .i64 a0_0, .slice A0_1 l0_1.length c0_1] 24 (0, 0)) (by (with_reducible repeat (first | refine blk_drewN ?_ _ | refine blk_drew ?_ | refine blk_alloc ?_ _)); exact BK228.out) hb)
                           have n4_ := Aside0.mk (blk_below (g := gb241) (o := .cells #[.int .i64 t238, .int .i64 t239] 32 (0, 0)) (by (with_reducible repeat (first | refine blk_drewN ?_ _ | refine blk_drew ?_ | refine blk_alloc ?_ _)); exact BK241.out) hb)
                           have n5_ := Aside0.mk (blk_below (g := gb249) (o := .cells #[.int .i64 t246, .int .i64 t247] 32 (0, 0)) (by (with_reducible repeat (first | refine blk_drewN ?_ _ | refine blk_drew ?_ | refine blk_alloc ?_ _)); exact BK249.out) hb)
                           have n6_ := Aside0.mk (blk_below (g := gb262) (o := .cells #[.int .i64 ((rd_T24 y258 x27_2).f0), .slice A261_1 ((rd_T24 y258 x27_2).f1).length c261_1] 24 (0, 0)) (by (with_reducible repeat (first | refine blk_drewN ?_ _ | refine blk_drew ?_ | refine blk_alloc ?_ _)); exact BK262.out) hb)
                           have n7_ := Aside0.mk (below_step (by repeat (first | (with_reducible first | exact HB.out | apply below_alloc | apply pw_below_drewN | apply below_drew1 | refine below_set ?_ GE228.out | refine below_set ?_ GE241.out | refine below_set ?_ GE249.out | refine below_set ?_ GE262.out) | exact HB.out)) hb)
                           clear HO_26
                           clear HO_29
                           clear HO_30
                           clear BK228
                           clear BK241
                           clear BK249
                           clear BK262
                           clear HB
                           have HO_26 := n0_
                           have HO_29 := n1_
                           have HO_30 := n2_
                           have BK228 := n3_
                           have BK241 := n4_
                           have BK249 := n5_
                           have BK262 := n6_
                           have HB := n7_
                           clear n0_ n1_ n2_ n3_ n4_ n5_ n6_ n7_
                           (try clear hb)
                           (try clear hb2)
                           (try clear hk)
                           (try clear hi)
                           refine hK.out _ _ ⟨(blk_cell BK262.out 0).trans rfl, (blk_cell BK262.out 1).trans rfl, HS2_, HS3_, HS4_, HS5_, HS6_, HS7_, HS8_, HS9_⟩ (fun hHeld => ?_)
                           clear hK K
                           refine norm_ (a' := ?_) ?_ ?_
                           rotate_left
                           ·
                            show Act.put _ (some 227) _ = _
                            simp only [Act.put, List.setIfInBounds_toArray, List.set_cons_zero, List.set_cons_succ, i64_w, i32_w]
                            rfl
                           refine one_ (i := 41) (N := some 237) #[true, true, true, true, true, true, true, true, true, true, true, true, true, true, true, true, true, true, true, true, true, true, true, true, true, true, true, true, true, true, true, true, true, true, true, true, true, true, true, true, true, true, false, false] rfl rfl (one_of HT_.out (by kernel_rfl)) (by decide) (fun K hK => ?_)
                           refine goes_ Try.func27 (by kernel_rfl) rfl #[.agg #[.int .i64 ((rd_T24 y258 x27_2).f0), .slice A261_1 ((rd_T24 y258 x27_2).f1).length c261_1], .int .i64 (rd y266 x31_3), .int .i64 (rd y270 x31_3)] (by rfl) rfl rfl (by (try simp only [List.map_toArray, List.map_cons, List.map_nil]); first | done | rfl | (simp only [List.length_drop, List.length_take]; rfl)) ?_
                           with_reducible refine (dialtoneref05_After.calls kj93 ((rd_T24 y258 x27_2).f0) _ _ ((rd_T24 y258 x27_2).f1) (rd y266 x31_3) (rd y270 x31_3) t300 _ ?side1 ?side2 A118.out).mono ?_
                           (case side1 => repeat (first | exact (Kd.F_now HO_26.out.2) | (with_reducible refine Kd.C_alloc ?_ _) | (with_reducible refine Kd.C_drewN ?_ _) | (with_reducible refine Kd.C_drew ?_)))
                           (case side2 => exact HC261_1.out)
                           rintro e w124 ⟨rfl, hb⟩
                           have HS2_ := (hb.cell (World.block_lt_of_cell? _ _ (hHeld.2.2.1))).trans (hHeld.2.2.1)
                           have HS3_ := (hb.cell (World.block_lt_of_cell? _ _ (hHeld.2.2.2.1))).trans (hHeld.2.2.2.1)
                           have HS4_ := (hb.cell (World.block_lt_of_cell? _ _ (hHeld.2.2.2.2.1))).trans (hHeld.2.2.2.2.1)
                           have HS5_ := (hb.cell (World.block_lt_of_cell? _ _ (hHeld.2.2.2.2.2.1))).trans (hHeld.2.2.2.2.2.1)
                           have HS6_ := (hb.cell (World.block_lt_of_cell? _ _ (hHeld.2.2.2.2.2.2.1))).trans (hHeld.2.2.2.2.2.2.1)
                           have HS7_ := (hb.cell (World.block_lt_of_cell? _ _ (hHeld.2.2.2.2.2.2.2.1))).trans (hHeld.2.2.2.2.2.2.2.1)
                           have HS8_ := (hb.cell (World.block_lt_of_cell? _ _ (hHeld.2.2.2.2.2.2.2.2.1))).trans (hHeld.2.2.2.2.2.2.2.2.1)
                           have HS9_ := (hb.cell (World.block_lt_of_cell? _ _ (hHeld.2.2.2.2.2.2.2.2.2))).trans (hHeld.2.2.2.2.2.2.2.2.2)
                           refine ⟨_, rfl, ?_⟩
                           have n0_ := Aside0.mk (NX_below (by (with_reducible repeat (first | apply NX_alloc | apply NX_drewN | apply NX_drew)); exact HO_26.out) hb)
                           have n1_ := Aside0.mk (Kd.R_below (by (with_reducible repeat (first | apply Kd.R_alloc | apply Kd.R_drewN | apply Kd.R_drew)); exact HO_29.out) hb)
                           have n2_ := Aside0.mk (Kd.R_below (by (with_reducible repeat (first | apply Kd.R_alloc | apply Kd.R_drewN | apply Kd.R_drew)); exact HO_30.out) hb)
                           have n3_ := Aside0.mk (blk_below (g := gb228) (o := .cells #[.int .i64 a0_0, .slice A0_1 l0_1.length c0_1] 24 (0, 0)) (by (with_reducible repeat (first | refine blk_drewN ?_ _ | refine blk_drew ?_ | refine blk_alloc ?_ _)); exact BK228.out) hb)
                           have n4_ := Aside0.mk (blk_below (g := gb241) (o := .cells #[.int .i64 t238, .int .i64 t239] 32 (0, 0)) (by (with_reducible repeat (first | refine blk_drewN ?_ _ | refine blk_drew ?_ | refine blk_alloc ?_ _)); exact BK241.out) hb)
                           have n5_ := Aside0.mk (blk_below (g := gb249) (o := .cells #[.int .i64 t246, .int .i64 t247] 32 (0, 0)) (by (with_reducible repeat (first | refine blk_drewN ?_ _ | refine blk_drew ?_ | refine blk_alloc ?_ _)); exact BK249.out) hb)
                           have n6_ := Aside0.mk (blk_below (g := gb262) (o := .cells #[.int .i64 ((rd_T24 y258 x27_2).f0), .slice A261_1 ((rd_T24 y258 x27_2).f1).length c261_1] 24 (0, 0)) (by (with_reducible repeat (first | refine blk_drewN ?_ _ | refine blk_drew ?_ | refine blk_alloc ?_ _)); exact BK262.out) hb)
                           have n7_ := Aside0.mk (below_step (by repeat (first | (with_reducible first | exact HB.out | apply below_alloc | apply pw_below_drewN | apply below_drew1 | refine below_set ?_ GE228.out | refine below_set ?_ GE241.out | refine below_set ?_ GE249.out | refine below_set ?_ GE262.out) | exact HB.out)) hb)
                           clear HO_26
                           clear HO_29
                           clear HO_30
                           clear BK228
                           clear BK241
                           clear BK249
                           clear BK262
                           clear HB
                           have HO_26 := n0_
                           have HO_29 := n1_
                           have HO_30 := n2_
                           have BK228 := n3_
                           have BK241 := n4_
                           have BK249 := n5_
                           have BK262 := n6_
                           have HB := n7_
                           clear n0_ n1_ n2_ n3_ n4_ n5_ n6_ n7_
                           (try clear hb)
                           (try clear hb2)
                           (try clear hk)
                           (try clear hi)
                           refine hK.out _ _ ⟨(blk_cell BK262.out 0).trans rfl, (blk_cell BK262.out 1).trans rfl, HS2_, HS3_, HS4_, HS5_, HS6_, HS7_, HS8_, HS9_⟩ (fun hHeld => ?_)
                           clear hK K
                           refine norm_ (a' := ?_) ?_ ?_
                           rotate_left
                           ·
                            show Act.put _ (some 237) _ = _
                            simp only [Act.put, List.setIfInBounds_toArray, List.set_cons_zero, List.set_cons_succ, i64_w, i32_w]
                            rfl
                           refine pure_ (i := 42) (N := some 238) (v := ?_) (a' := ?_) #[true, true, true, true, true, true, true, true, true, true, true, true, true, true, true, true, true, true, true, true, true, true, true, true, true, true, true, true, true, true, true, true, true, true, true, true, true, true, true, true, true, true, true, false] rfl rfl (any_of HT_.out (by kernel_rfl)) (fun _ _ _ h => h) (Or.inl ⟨by rfl, ?_⟩) ?_ ?_
                           rotate_left
                           ·
                            intro w'
                            go_simp
                            with_reducible rfl
                           rotate_left
                           ·
                            simp only [Act.put, List.setIfInBounds_toArray, List.set_cons_zero, List.set_cons_succ, i64_w, i32_w]
                            rfl
                           refine pure_ (i := 43) (N := some 239) (v := ?_) (a' := ?_) #[true, true, true, true, true, true, true, true, true, true, true, true, true, true, true, true, true, true, true, true, true, true, true, true, true, true, true, true, true, true, true, true, true, true, true, true, true, true, true, true, true, true, true, true] rfl rfl (any_of HT_.out (by kernel_rfl)) (fun _ _ _ h => h) (Or.inl ⟨by rfl, ?_⟩) ?_ ?_
                           rotate_left
                           ·
                            intro w'
                            go_simp
                            with_reducible rfl
                           rotate_left
                           ·
                            simp only [Act.put, List.setIfInBounds_toArray, List.set_cons_zero, List.set_cons_succ, i64_w, i32_w]
                            rfl
                           refine done_ (done_of HT_.out (by kernel_rfl)) ?_
                           try go_wp2
                           go_roundg kj93
                           case measure => have := HJ20.out; have := HK2.out; have := HK3.out; have := HJ93.out; omega
                           case rel => exact ⟨(wrap64 (x31_3 + 1)), (by first | rfl | (simp; done) | (simp [*]; done)), H', ⟨by have := HJ20.out; have := HK2.out; have := HK3.out; have := HJ93.out; omega⟩, ⟨by (with_reducible repeat (first | apply NX_alloc | apply NX_drewN | apply NX_drew)); exact HO_26.out⟩, ⟨by (with_reducible repeat (first | apply Kd.R_alloc | apply Kd.R_drewN | apply Kd.R_drew)); exact HO_29.out⟩, ⟨by (with_reducible repeat (first | apply Kd.R_alloc | apply Kd.R_drewN | apply Kd.R_drew)); exact HO_30.out⟩, ⟨by (with_reducible repeat (first | refine blk_drewN ?_ _ | refine blk_drew ?_ | refine blk_alloc ?_ _)); exact BK228.out⟩, ⟨by (with_reducible repeat (first | refine blk_drewN ?_ _ | refine blk_drew ?_ | refine blk_alloc ?_ _)); exact BK241.out⟩, ⟨by (with_reducible repeat (first | refine blk_drewN ?_ _ | refine blk_drew ?_ | refine blk_alloc ?_ _)); exact BK249.out⟩, ⟨by (with_reducible repeat (first | refine blk_drewN ?_ _ | refine blk_drew ?_ | refine blk_alloc ?_ _)); exact BK262.out⟩, ⟨by repeat (first | (with_reducible first | exact HB.out | apply below_alloc | apply pw_below_drewN | apply below_drew1 | refine below_set ?_ GE228.out | refine below_set ?_ GE241.out | refine below_set ?_ GE249.out | refine below_set ?_ GE262.out) | exact HB.out)⟩⟩
                        ·
                         rw [if_neg c113] at H
                         exact absurd H (by simp)
                       ·
                        rw [if_neg c112] at H
                        exact absurd H (by simp)
                      ·
                       rw [if_neg c111] at H
                       exact absurd H (by simp)
                  ·
                   rw [if_neg c91] at H
                   exact absurd H (by simp)
                 ·
                  rw [if_neg c88] at H
                  exact absurd H (by simp)
                ·
                 rw [if_neg c87] at H
                 exact absurd H (by simp)
               ·
                rw [if_neg c86] at H
                have c86b0 : decide (x31_3 < 2) = false := decide_eq_false c86
                clear c86
                have H' := Aside0.mk H
                clear H
                go_wp2
                go_roundg k3
                case measure => have := HJ20.out; have := HK2.out; have := HK3.out; omega
                case rel => exact ⟨(wrap64 (x27_2 + 1)), (by first | rfl | (simp; done) | (simp [*]; done)), H', ⟨by have := HJ20.out; have := HK2.out; have := HK3.out; omega⟩, ⟨by (with_reducible repeat (first | apply Kd.N_alloc | apply Kd.N_drewN | apply Kd.N_drew)); exact Kd.N_mono HO_26.out.1 (fun _ hk => ⟨hk.2.2.1, ⟨hk.2.2.2.1, hk.2.2.2.2.1⟩⟩)⟩, ⟨by (with_reducible repeat (first | refine blk_drewN ?_ _ | refine blk_drew ?_ | refine blk_alloc ?_ _)); exact BK228.out⟩, ⟨by (with_reducible repeat (first | refine blk_drewN ?_ _ | refine blk_drew ?_ | refine blk_alloc ?_ _)); exact BK241.out⟩, ⟨by (with_reducible repeat (first | refine blk_drewN ?_ _ | refine blk_drew ?_ | refine blk_alloc ?_ _)); exact BK249.out⟩, ⟨by repeat (first | (with_reducible first | exact HB.out | apply below_alloc | apply pw_below_drewN | apply below_drew1 | refine below_set ?_ GE228.out | refine below_set ?_ GE241.out | refine below_set ?_ GE249.out | refine below_set ?_ GE262.out) | exact HB.out)⟩⟩
           ·
            rw [if_neg c64] at H
            exact absurd H (by simp)
          ·
           rw [if_neg c63] at H
           exact absurd H (by simp)
         ·
          rw [if_neg c62] at H
          have c62b0 : decide (x27_2 < 2) = false := decide_eq_false c62
          clear c62
          obtain rfl := Option.some.inj H
          go_wp2
          go_ret
          exact ⟨by first | rfl | (simp [errW_none, errW_some] <;> rfl) | (simp only [← hji13]; first | rfl | (simp [errW_none, errW_some] <;> rfl)) | (simp [*, errW_none, errW_some] <;> rfl), by repeat (first | (with_reducible first | exact HB.out | apply below_alloc | apply pw_below_drewN | apply below_drew1 | refine below_set ?_ GE228.out | refine below_set ?_ GE241.out | refine below_set ?_ GE249.out) | exact HB.out)⟩
   ·
    rw [if_neg c15] at H
    exact absurd H (by simp)
  ·
   rw [if_neg c14] at H
   exact absurd H (by simp)
 ·
  replace c10 := Bool.eq_false_iff.mpr c10
  subst c10
  have H1 : (none) = some r := by rw [if_neg (show ¬ (false = true) by decide)] at H; exact H
  clear H
  have H := H1
  clear H1
  exact absurd H (by simp)

end Go.Proofs.Ythbonailomfjlaa.C
