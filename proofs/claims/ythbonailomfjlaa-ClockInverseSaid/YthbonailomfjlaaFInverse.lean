-- Written for this claim by a program of this session (wip/tools/hprint.py) out of the translation. Lean checks it.
import Derived.Test.YthbonailomfjlaaCKinds
import Derived.Test.YthbonailomfjlaaCAt
import Derived.Test.YthbonailomfjlaaCSane
import Derived.Test.YthbonailomfjlaaCShown
import Derived.Test.YthbonailomfjlaaCMade
import Derived.Test.YthbonailomfjlaaHPick
import Derived.Test.YthbonailomfjlaaHReads
namespace Go.Proofs.Ythbonailomfjlaa.C
open Go.RowKit Go.Proofs.YthbonailomfjlaaW.PrintWords Go.Proofs.YthbonailomfjlaaW.PrintLast Go.Proofs.YthbonailomfjlaaW.PrintMore
attribute [local go_sem] max2_int min2_int max_two min_two max_three min_three max_four min_four   -- for this text's walks alone
set_option linter.unusedVariables false
set_option linter.unusedSimpArgs false

/-! ### dialtonelaw05_ClockInverse: function 7 -/
mutual
def dialtonelaw05_ClockInverse.l0 : Nat → Int → Bool → Int → Int → Int → List Int → Int → Int → List (S50) → Option (Bool)
  | 0, _, _, _, _, _, _, _, _, _ => none
  | k + 1, x5, x13, x16, x17, x18, x19, x20, x349000, x349001 => if x20 < (x19.length : Int) then (if 0 ≤ x20 then (if (rd x19 x20) < 0 then (dialtonelaw05_ClockInverse.j1 k x5 x13 x16 x17 x18 x19 x20 true x349000 x349001) else (dialtonelaw05_ClockInverse.j1 k x5 x13 x16 x17 x18 x19 x20 (decide ((rd x19 x20) > 10000000)) x349000 x349001)) else (none)) else (some x13)
def dialtonelaw05_ClockInverse.j1 : Nat → Int → Bool → Int → Int → Int → List Int → Int → Bool → Int → List (S50) → Option (Bool)
  | 0, _, _, _, _, _, _, _, _, _, _ => none
  | k + 1, x5, x13, x16, x17, x18, x19, x20, x78, x349000, x349001 => if x78 = true then (dialtonelaw05_ClockInverse.l0 k x5 x13 x16 x17 x18 x19 (wrap64 (x20 + 1)) x349000 x349001) else (if 0 ≤ x20 then (if x20 < (x19.length : Int) then ((clock_At.f k x349000 x349001 (rd x19 x20)).bind fun bt362 => (if bt362.2.2 = 0 then (if bt362.1 ≤ x5 then (dialtonelaw05_ClockInverse.j2 k x5 x13 x16 x17 x18 x19 x20 (decide (x5 ≤ bt362.2.1)) x349000 x349001) else (dialtonelaw05_ClockInverse.j2 k x5 x13 x16 x17 x18 x19 x20 false x349000 x349001)) else (dialtonelaw05_ClockInverse.j2 k x5 x13 x16 x17 x18 x19 x20 false x349000 x349001))) else (none)) else (none))
def dialtonelaw05_ClockInverse.j2 : Nat → Int → Bool → Int → Int → Int → List Int → Int → Bool → Int → List (S50) → Option (Bool)
  | 0, _, _, _, _, _, _, _, _, _, _ => none
  | k + 1, x5, x13, x16, x17, x18, x19, x20, x24, x349000, x349001 => if x18 = 0 then (if 0 ≤ x20 then (if x20 < (x19.length : Int) then (if x16 ≤ (rd x19 x20) then (dialtonelaw05_ClockInverse.j3 k x5 x13 x16 x17 x18 x19 x20 (x24 != (decide ((rd x19 x20) ≤ x17))) x349000 x349001) else (dialtonelaw05_ClockInverse.j3 k x5 x13 x16 x17 x18 x19 x20 (x24 != false) x349000 x349001)) else (none)) else (none)) else (dialtonelaw05_ClockInverse.j3 k x5 x13 x16 x17 x18 x19 x20 (x24 != false) x349000 x349001)
def dialtonelaw05_ClockInverse.j3 : Nat → Int → Bool → Int → Int → Int → List Int → Int → Bool → Int → List (S50) → Option (Bool)
  | 0, _, _, _, _, _, _, _, _, _, _ => none
  | k + 1, x5, x13, x16, x17, x18, x19, x20, x120, x349000, x349001 => if x120 = true then (none) else (dialtonelaw05_ClockInverse.l0 k x5 x13 x16 x17 x18 x19 (wrap64 (x20 + 1)) x349000 x349001)
end
def dialtonelaw05_ClockInverse.f (k : Nat) (a0 : Int) (a1 : Int) (l2 : List Int) (l3 : List (S60)) (a4 : Int) (a5 : Int) : Option (Bool) := (dialtonelaw05_sane.f k).bind fun t343 => (if t343 = true then ((dialtoneref05_Made.f k a0 a1 l2 l3).bind fun bt344 => ((dialtonelaw05_pick.f a4 5000).bind fun t349 => ((dialtonelaw05_pick.f a5 5000).bind fun t350 => ((clock_Reads.f bt344.1 bt344.2 t350).bind fun bt351 => ((dialtoneref05_Shown.f k a0 a1 l2 t350).bind fun t354 => ((dialtonelaw05_pick.f a4 21).bind fun t355 => (dialtonelaw05_ClockInverse.l0 k t350 t343 bt351.1 bt351.2.1 bt351.2.2 (([t349, wrap64 (bt351.1 - 1), bt351.1, bt351.2.1, wrap64 (bt351.2.1 + 1), wrap64 ((wrap64 (t354 + t355)) - 10)] : List Int)) 0 bt344.1 bt344.2))))))) else (none))
theorem dialtonelaw05_ClockInverse.mono_l : ∀ k, (∀ y0 y1 y2 y3 y4 y5 y6 y7 y8, LeO (dialtonelaw05_ClockInverse.l0 k y0 y1 y2 y3 y4 y5 y6 y7 y8) (dialtonelaw05_ClockInverse.l0 (k + 1) y0 y1 y2 y3 y4 y5 y6 y7 y8)) ∧ (∀ y0 y1 y2 y3 y4 y5 y6 y7 y8 y9, LeO (dialtonelaw05_ClockInverse.j1 k y0 y1 y2 y3 y4 y5 y6 y7 y8 y9) (dialtonelaw05_ClockInverse.j1 (k + 1) y0 y1 y2 y3 y4 y5 y6 y7 y8 y9)) ∧ (∀ y0 y1 y2 y3 y4 y5 y6 y7 y8 y9, LeO (dialtonelaw05_ClockInverse.j2 k y0 y1 y2 y3 y4 y5 y6 y7 y8 y9) (dialtonelaw05_ClockInverse.j2 (k + 1) y0 y1 y2 y3 y4 y5 y6 y7 y8 y9)) ∧ (∀ y0 y1 y2 y3 y4 y5 y6 y7 y8 y9, LeO (dialtonelaw05_ClockInverse.j3 k y0 y1 y2 y3 y4 y5 y6 y7 y8 y9) (dialtonelaw05_ClockInverse.j3 (k + 1) y0 y1 y2 y3 y4 y5 y6 y7 y8 y9))
  | 0 => ⟨fun _ _ _ _ _ _ _ _ _ r h => by simp [dialtonelaw05_ClockInverse.l0] at h, fun _ _ _ _ _ _ _ _ _ _ r h => by simp [dialtonelaw05_ClockInverse.j1] at h, fun _ _ _ _ _ _ _ _ _ _ r h => by simp [dialtonelaw05_ClockInverse.j2] at h, fun _ _ _ _ _ _ _ _ _ _ r h => by simp [dialtonelaw05_ClockInverse.j3] at h⟩
  | k + 1 => by
    obtain ⟨ih0, ih1, ih2, ih3⟩ := dialtonelaw05_ClockInverse.mono_l k
    refine ⟨?_, ?_, ?_, ?_⟩
    · intro y0 y1 y2 y3 y4 y5 y6 y7 y8
      unfold dialtonelaw05_ClockInverse.l0
      repeat' first
      | (with_reducible exact ih0 _ _ _ _ _ _ _ _ _)
      | (with_reducible exact ih1 _ _ _ _ _ _ _ _ _ _)
      | (with_reducible exact ih2 _ _ _ _ _ _ _ _ _ _)
      | (with_reducible exact ih3 _ _ _ _ _ _ _ _ _ _)
      | (with_reducible exact clock_At.mono _ _ _ _)
      | (with_reducible exact dialtonelaw05_sane.mono _)
      | (with_reducible exact dialtoneref05_Made.mono _ _ _ _ _)
      | (with_reducible exact dialtoneref05_Shown.mono _ _ _ _ _)
      | (with_reducible exact LeO.refl _)
      | (with_reducible exact LeO.none _)
      | (with_reducible refine LeO.ite ?_ ?_)
      | (with_reducible refine LeO.bind ?_ (fun _ => ?_))
      | exact ih0 _ _ _ _ _ _ _ _ _
      | exact ih1 _ _ _ _ _ _ _ _ _ _
      | exact ih2 _ _ _ _ _ _ _ _ _ _
      | exact ih3 _ _ _ _ _ _ _ _ _ _
      | exact clock_At.mono _ _ _ _
      | exact dialtonelaw05_sane.mono _
      | exact dialtoneref05_Made.mono _ _ _ _ _
      | exact dialtoneref05_Shown.mono _ _ _ _ _
      | exact LeO.none _
      | refine LeO.ite ?_ ?_
      | refine LeO.bind ?_ (fun _ => ?_)
    · intro y0 y1 y2 y3 y4 y5 y6 y7 y8 y9
      unfold dialtonelaw05_ClockInverse.j1
      repeat' first
      | (with_reducible exact ih0 _ _ _ _ _ _ _ _ _)
      | (with_reducible exact ih1 _ _ _ _ _ _ _ _ _ _)
      | (with_reducible exact ih2 _ _ _ _ _ _ _ _ _ _)
      | (with_reducible exact ih3 _ _ _ _ _ _ _ _ _ _)
      | (with_reducible exact clock_At.mono _ _ _ _)
      | (with_reducible exact dialtonelaw05_sane.mono _)
      | (with_reducible exact dialtoneref05_Made.mono _ _ _ _ _)
      | (with_reducible exact dialtoneref05_Shown.mono _ _ _ _ _)
      | (with_reducible exact LeO.refl _)
      | (with_reducible exact LeO.none _)
      | (with_reducible refine LeO.ite ?_ ?_)
      | (with_reducible refine LeO.bind ?_ (fun _ => ?_))
      | exact ih0 _ _ _ _ _ _ _ _ _
      | exact ih1 _ _ _ _ _ _ _ _ _ _
      | exact ih2 _ _ _ _ _ _ _ _ _ _
      | exact ih3 _ _ _ _ _ _ _ _ _ _
      | exact clock_At.mono _ _ _ _
      | exact dialtonelaw05_sane.mono _
      | exact dialtoneref05_Made.mono _ _ _ _ _
      | exact dialtoneref05_Shown.mono _ _ _ _ _
      | exact LeO.none _
      | refine LeO.ite ?_ ?_
      | refine LeO.bind ?_ (fun _ => ?_)
    · intro y0 y1 y2 y3 y4 y5 y6 y7 y8 y9
      unfold dialtonelaw05_ClockInverse.j2
      repeat' first
      | (with_reducible exact ih0 _ _ _ _ _ _ _ _ _)
      | (with_reducible exact ih1 _ _ _ _ _ _ _ _ _ _)
      | (with_reducible exact ih2 _ _ _ _ _ _ _ _ _ _)
      | (with_reducible exact ih3 _ _ _ _ _ _ _ _ _ _)
      | (with_reducible exact clock_At.mono _ _ _ _)
      | (with_reducible exact dialtonelaw05_sane.mono _)
      | (with_reducible exact dialtoneref05_Made.mono _ _ _ _ _)
      | (with_reducible exact dialtoneref05_Shown.mono _ _ _ _ _)
      | (with_reducible exact LeO.refl _)
      | (with_reducible exact LeO.none _)
      | (with_reducible refine LeO.ite ?_ ?_)
      | (with_reducible refine LeO.bind ?_ (fun _ => ?_))
      | exact ih0 _ _ _ _ _ _ _ _ _
      | exact ih1 _ _ _ _ _ _ _ _ _ _
      | exact ih2 _ _ _ _ _ _ _ _ _ _
      | exact ih3 _ _ _ _ _ _ _ _ _ _
      | exact clock_At.mono _ _ _ _
      | exact dialtonelaw05_sane.mono _
      | exact dialtoneref05_Made.mono _ _ _ _ _
      | exact dialtoneref05_Shown.mono _ _ _ _ _
      | exact LeO.none _
      | refine LeO.ite ?_ ?_
      | refine LeO.bind ?_ (fun _ => ?_)
    · intro y0 y1 y2 y3 y4 y5 y6 y7 y8 y9
      unfold dialtonelaw05_ClockInverse.j3
      repeat' first
      | (with_reducible exact ih0 _ _ _ _ _ _ _ _ _)
      | (with_reducible exact ih1 _ _ _ _ _ _ _ _ _ _)
      | (with_reducible exact ih2 _ _ _ _ _ _ _ _ _ _)
      | (with_reducible exact ih3 _ _ _ _ _ _ _ _ _ _)
      | (with_reducible exact clock_At.mono _ _ _ _)
      | (with_reducible exact dialtonelaw05_sane.mono _)
      | (with_reducible exact dialtoneref05_Made.mono _ _ _ _ _)
      | (with_reducible exact dialtoneref05_Shown.mono _ _ _ _ _)
      | (with_reducible exact LeO.refl _)
      | (with_reducible exact LeO.none _)
      | (with_reducible refine LeO.ite ?_ ?_)
      | (with_reducible refine LeO.bind ?_ (fun _ => ?_))
      | exact ih0 _ _ _ _ _ _ _ _ _
      | exact ih1 _ _ _ _ _ _ _ _ _ _
      | exact ih2 _ _ _ _ _ _ _ _ _ _
      | exact ih3 _ _ _ _ _ _ _ _ _ _
      | exact clock_At.mono _ _ _ _
      | exact dialtonelaw05_sane.mono _
      | exact dialtoneref05_Made.mono _ _ _ _ _
      | exact dialtoneref05_Shown.mono _ _ _ _ _
      | exact LeO.none _
      | refine LeO.ite ?_ ?_
      | refine LeO.bind ?_ (fun _ => ?_)
theorem dialtonelaw05_ClockInverse.mono : ∀ a0 a1 a2 a3 a4 a5 k, LeO (dialtonelaw05_ClockInverse.f k a0 a1 a2 a3 a4 a5) (dialtonelaw05_ClockInverse.f (k + 1) a0 a1 a2 a3 a4 a5) := by
  intro a0 a1 a2 a3 a4 a5 k
  obtain ⟨ih0, ih1, ih2, ih3⟩ := dialtonelaw05_ClockInverse.mono_l k
  unfold dialtonelaw05_ClockInverse.f
  repeat' first
      | (with_reducible exact ih0 _ _ _ _ _ _ _ _ _)
      | (with_reducible exact ih1 _ _ _ _ _ _ _ _ _ _)
      | (with_reducible exact ih2 _ _ _ _ _ _ _ _ _ _)
      | (with_reducible exact ih3 _ _ _ _ _ _ _ _ _ _)
      | (with_reducible exact clock_At.mono _ _ _ _)
      | (with_reducible exact dialtonelaw05_sane.mono _)
      | (with_reducible exact dialtoneref05_Made.mono _ _ _ _ _)
      | (with_reducible exact dialtoneref05_Shown.mono _ _ _ _ _)
      | (with_reducible exact LeO.refl _)
      | (with_reducible exact LeO.none _)
      | (with_reducible refine LeO.ite ?_ ?_)
      | (with_reducible refine LeO.bind ?_ (fun _ => ?_))
      | exact ih0 _ _ _ _ _ _ _ _ _
      | exact ih1 _ _ _ _ _ _ _ _ _ _
      | exact ih2 _ _ _ _ _ _ _ _ _ _
      | exact ih3 _ _ _ _ _ _ _ _ _ _
      | exact clock_At.mono _ _ _ _
      | exact dialtonelaw05_sane.mono _
      | exact dialtoneref05_Made.mono _ _ _ _ _
      | exact dialtoneref05_Shown.mono _ _ _ _ _
      | exact LeO.none _
      | refine LeO.ite ?_ ?_
      | refine LeO.bind ?_ (fun _ => ?_)
def dialtonelaw05_ClockInverse.T13 : Bool × List (List Nat × List Nat) := (true, [([], []), ([], []), ([], []), ([1, 2], [1, 2]), ([3], [3]), ([0, 4], [0, 4]), ([5], [5]), ([6], [6]), ([6], [6]), ([6], [6]), ([7, 5, 0, 1, 2, 3, 4, 5, 6, 7], [7]), ([8, 10, 0, 1, 2, 3, 4, 5, 6, 7, 8, 10], [8]), ([9, 11, 0, 1, 2, 3, 4, 5, 6, 7, 8, 9, 10, 11], [9])])
def dialtonelaw05_ClockInverse.B13 : List Nat := [0, 0, 0, 6, 14, 31, 63, 127, 127, 127, 255, 1535, 4095]
theorem dialtonelaw05_ClockInverse.tab13 : rtab .any (opsOf Try.f7 13) = dialtonelaw05_ClockInverse.T13 := by kernel_rfl
theorem dialtonelaw05_ClockInverse.bits13 : waitsOk dialtonelaw05_ClockInverse.T13.2 dialtonelaw05_ClockInverse.B13 = true := by kernel_rfl
set_option maxHeartbeats 8000000 in
set_option maxRecDepth 100000 in
theorem dialtonelaw05_ClockInverse.calls (k : Nat) (a0 : Int) (a1 : Int) (A2 : Option Addr) (c2 : Nat) (l2 : List Int) (A3 : Option Addr) (c3 : Nat) (l3 : List (S60)) (a4 : Int) (a5 : Int) (r : Bool) (w : World) (hr2 : Kd.C (Kd.int .i64) w A2 l2.length l2) (hc2 : l2.length ≤ c2) (hr3 : Kd.C k60 w A3 l3.length l3) (hc3 : l3.length ≤ c3) (h : dialtonelaw05_ClockInverse.f k a0 a1 l2 l3 a4 a5 = some r) :
    Calls Try.prog 7 #[.int .i64 a0, .int .i64 a1, .slice A2 l2.length c2, .slice A3 l3.length c3, .int .i64 a4, .int .i64 a5] w fun e w' => e = .returned (.bool r) ∧ Below w.heap.size w w' := by
  have hu24 := Try.underlying24
  have HR2 := Aside0.mk hr2
  have HC2 := Aside0.mk hc2
  clear hr2 hc2
  have HR3 := Aside0.mk hr3
  have HC3 := Aside0.mk hc3
  clear hr3 hc3
  have HB := Aside0.mk (Below.refl w.heap.size w)
  have H : ((dialtonelaw05_sane.f k).bind fun t343 => (if t343 = true then ((dialtoneref05_Made.f k a0 a1 l2 l3).bind fun bt344 => ((dialtonelaw05_pick.f a4 5000).bind fun t349 => ((dialtonelaw05_pick.f a5 5000).bind fun t350 => ((clock_Reads.f bt344.1 bt344.2 t350).bind fun bt351 => ((dialtoneref05_Shown.f k a0 a1 l2 t350).bind fun t354 => ((dialtonelaw05_pick.f a4 21).bind fun t355 => (dialtonelaw05_ClockInverse.l0 k t350 t343 bt351.1 bt351.2.1 bt351.2.2 (([t349, wrap64 (bt351.1 - 1), bt351.1, bt351.2.1, wrap64 (bt351.2.1 + 1), wrap64 ((wrap64 (t354 + t355)) - 10)] : List Int)) 0 bt344.1 bt344.2))))))) else (none))) = some r := h
  clear h
  replace H := Option.bind_eq_some_iff.mp H
  obtain ⟨t343, A70, H⟩ := H
  replace H : (if t343 = true then ((dialtoneref05_Made.f k a0 a1 l2 l3).bind fun bt344 => ((dialtonelaw05_pick.f a4 5000).bind fun t349 => ((dialtonelaw05_pick.f a5 5000).bind fun t350 => ((clock_Reads.f bt344.1 bt344.2 t350).bind fun bt351 => ((dialtoneref05_Shown.f k a0 a1 l2 t350).bind fun t354 => ((dialtonelaw05_pick.f a4 21).bind fun t355 => (dialtonelaw05_ClockInverse.l0 k t350 t343 bt351.1 bt351.2.1 bt351.2.2 (([t349, wrap64 (bt351.1 - 1), bt351.1, bt351.2.1, wrap64 (bt351.2.1 + 1), wrap64 ((wrap64 (t354 + t355)) - 10)] : List Int)) 0 bt344.1 bt344.2))))))) else (none)) = some r := H
  have A7 := Aside0.mk A70
  clear A70
  by_cases c8 : t343 = true
  · subst c8
    have H1 : ((dialtoneref05_Made.f k a0 a1 l2 l3).bind fun bt344 => ((dialtonelaw05_pick.f a4 5000).bind fun t349 => ((dialtonelaw05_pick.f a5 5000).bind fun t350 => ((clock_Reads.f bt344.1 bt344.2 t350).bind fun bt351 => ((dialtoneref05_Shown.f k a0 a1 l2 t350).bind fun t354 => ((dialtonelaw05_pick.f a4 21).bind fun t355 => (dialtonelaw05_ClockInverse.l0 k t350 true bt351.1 bt351.2.1 bt351.2.2 (([t349, wrap64 (bt351.1 - 1), bt351.1, bt351.2.1, wrap64 (bt351.2.1 + 1), wrap64 ((wrap64 (t354 + t355)) - 10)] : List Int)) 0 bt344.1 bt344.2))))))) = some r := by rw [if_pos rfl] at H; exact H
    clear H
    have H := H1
    clear H1
    replace H := Option.bind_eq_some_iff.mp H
    obtain ⟨⟨t344, t345⟩, A90, H⟩ := H
    replace H : ((dialtonelaw05_pick.f a4 5000).bind fun t349 => ((dialtonelaw05_pick.f a5 5000).bind fun t350 => ((clock_Reads.f t344 t345 t350).bind fun bt351 => ((dialtoneref05_Shown.f k a0 a1 l2 t350).bind fun t354 => ((dialtonelaw05_pick.f a4 21).bind fun t355 => (dialtonelaw05_ClockInverse.l0 k t350 true bt351.1 bt351.2.1 bt351.2.2 (([t349, wrap64 (bt351.1 - 1), bt351.1, bt351.2.1, wrap64 (bt351.2.1 + 1), wrap64 ((wrap64 (t354 + t355)) - 10)] : List Int)) 0 t344 t345)))))) = some r := H
    have A9 := Aside0.mk A90
    clear A90
    replace H := Option.bind_eq_some_iff.mp H
    obtain ⟨t349, A100, H⟩ := H
    replace H : ((dialtonelaw05_pick.f a5 5000).bind fun t350 => ((clock_Reads.f t344 t345 t350).bind fun bt351 => ((dialtoneref05_Shown.f k a0 a1 l2 t350).bind fun t354 => ((dialtonelaw05_pick.f a4 21).bind fun t355 => (dialtonelaw05_ClockInverse.l0 k t350 true bt351.1 bt351.2.1 bt351.2.2 (([t349, wrap64 (bt351.1 - 1), bt351.1, bt351.2.1, wrap64 (bt351.2.1 + 1), wrap64 ((wrap64 (t354 + t355)) - 10)] : List Int)) 0 t344 t345))))) = some r := H
    have A10 := Aside0.mk A100
    clear A100
    replace H := Option.bind_eq_some_iff.mp H
    obtain ⟨t350, A110, H⟩ := H
    replace H : ((clock_Reads.f t344 t345 t350).bind fun bt351 => ((dialtoneref05_Shown.f k a0 a1 l2 t350).bind fun t354 => ((dialtonelaw05_pick.f a4 21).bind fun t355 => (dialtonelaw05_ClockInverse.l0 k t350 true bt351.1 bt351.2.1 bt351.2.2 (([t349, wrap64 (bt351.1 - 1), bt351.1, bt351.2.1, wrap64 (bt351.2.1 + 1), wrap64 ((wrap64 (t354 + t355)) - 10)] : List Int)) 0 t344 t345)))) = some r := H
    have A11 := Aside0.mk A110
    clear A110
    replace H := Option.bind_eq_some_iff.mp H
    obtain ⟨⟨t351, t352, t353⟩, A120, H⟩ := H
    replace H : ((dialtoneref05_Shown.f k a0 a1 l2 t350).bind fun t354 => ((dialtonelaw05_pick.f a4 21).bind fun t355 => (dialtonelaw05_ClockInverse.l0 k t350 true t351 t352 t353 (([t349, wrap64 (t351 - 1), t351, t352, wrap64 (t352 + 1), wrap64 ((wrap64 (t354 + t355)) - 10)] : List Int)) 0 t344 t345))) = some r := H
    have A12 := Aside0.mk A120
    clear A120
    replace H := Option.bind_eq_some_iff.mp H
    obtain ⟨t354, A130, H⟩ := H
    replace H : ((dialtonelaw05_pick.f a4 21).bind fun t355 => (dialtonelaw05_ClockInverse.l0 k t350 true t351 t352 t353 (([t349, wrap64 (t351 - 1), t351, t352, wrap64 (t352 + 1), wrap64 ((wrap64 (t354 + t355)) - 10)] : List Int)) 0 t344 t345)) = some r := H
    have A13 := Aside0.mk A130
    clear A130
    replace H := Option.bind_eq_some_iff.mp H
    obtain ⟨t355, A140, H⟩ := H
    replace H : (dialtonelaw05_ClockInverse.l0 k t350 true t351 t352 t353 (([t349, wrap64 (t351 - 1), t351, t352, wrap64 (t352 + 1), wrap64 ((wrap64 (t354 + t355)) - 10)] : List Int)) 0 t344 t345) = some r := H
    have A14 := Aside0.mk A140
    clear A140
    obtain ⟨y356, hy356⟩ : ∃ y_ : List Int, y_ = (([t349, wrap64 (t351 - 1), t351, t352, wrap64 (t352 + 1), wrap64 ((wrap64 (t354 + t355)) - 10)] : List Int)) := ⟨_, rfl⟩
    replace H : (dialtonelaw05_ClockInverse.l0 k t350 true t351 t352 t353 y356 0 t344 t345) = some r := by first | (rw [hy356]; with_reducible exact H) | (have H2_ := (Option.bind_some _ _).symm.trans H; rw [hy356]; with_reducible exact H2_) | (have H2_ := (Option.bind_some _ _).symm.trans H; with_reducible exact H2_) | with_reducible exact H | (rw [hy356]; exact H) | exact H
    have Ny356 := Aside0.mk hy356
    clear hy356
    have H' := Aside0.mk H
    clear H
    go_enter Try.func7, Try.ntmps7
    go_wp2_with (first | ((with_reducible refine gate_callee (f := 10) rfl ?_); refine goesL_ (some 25) rfl rfl Try.func10 (by kernel_rfl) rfl #[] rfl (by (try simp only [List.map_toArray, List.map_cons, List.map_nil]); first | done | rfl | (simp only [List.length_drop, List.length_take]; rfl)) ?_; (with_reducible refine (dialtonelaw05_sane.calls k  true _ A7.out).mono ?_); rintro e w15 ⟨rfl, hb⟩; refine ⟨_, rfl, ?_⟩; have n0_ := Aside0.mk (below_step (by repeat (first | (with_reducible first | exact HB.out | apply below_alloc | apply pw_below_drewN | apply below_drew1) | exact HB.out)) hb); clear HB; have HB := n0_; clear n0_; (try clear hb); (try clear hb2); (try clear hk); (try clear hi)) | ((with_reducible refine gate_callee (f := 16) rfl ?_); refine goesL_ (some 32) rfl rfl Try.func16 (by kernel_rfl) rfl #[.int .i64 a0, .int .i64 a1, .slice A2 l2.length c2, .slice A3 l3.length c3] rfl (by (try simp only [List.map_toArray, List.map_cons, List.map_nil]); first | done | rfl | (simp only [List.length_drop, List.length_take]; rfl)) ?_; (with_reducible refine (dialtoneref05_Made.calls k a0 a1 _ _ l2 _ _ l3 t344 t345 _ ?side1 ?side2 ?side3 ?side4 A9.out).mono ?_); (case side1 => repeat (first | exact (Kd.C_below HR2.out HB.out) | (with_reducible refine Kd.C_alloc ?_ _) | (with_reducible refine Kd.C_drewN ?_ _) | (with_reducible refine Kd.C_drew ?_))); (case side2 => exact HC2.out); (case side3 => repeat (first | exact (Kd.C_below HR3.out HB.out) | (with_reducible refine Kd.C_alloc ?_ _) | (with_reducible refine Kd.C_drewN ?_ _) | (with_reducible refine Kd.C_drew ?_))); (case side4 => exact HC3.out); rintro e w16 ⟨v346, rfl, ho0, hb⟩; refine ⟨_, rfl, ?_⟩; have n0_ := Aside0.mk (Kd.R_lower ho0 (below_size (by repeat (first | (with_reducible first | exact HB.out | apply below_alloc | apply pw_below_drewN | apply below_drew1) | exact HB.out)))); have n1_ := Aside0.mk (below_step (by repeat (first | (with_reducible first | exact HB.out | apply below_alloc | apply pw_below_drewN | apply below_drew1) | exact HB.out)) hb); clear HB; have HO347 := n0_; have HB := n1_; clear n0_ n1_; (try clear hb); (try clear hb2); (try clear hk); (try clear hi); (try clear ho0)) | ((with_reducible refine gate_dst (N := 14) rfl ?_); refine box_event ?hg (N := 14) ?hd (cs := #[.int .i64 0, .slice none 0 0]) (t := 24) ?hr ?_; (case hd => rfl); (case hg => rfl); (case hr => first | (go_simp; done) | (go_simp; rfl)); intro gb348 hg w17 hbox hb; have n0_ := Aside0.mk (Kd.R_below (by (with_reducible repeat (first | apply Kd.R_alloc | apply Kd.R_drewN | apply Kd.R_drew)); exact HO347.out) hb); have n1_ := Aside0.mk (below_step (by repeat (first | (with_reducible first | exact HB.out | apply below_alloc | apply pw_below_drewN | apply below_drew1) | exact HB.out)) hb); have n2_ := Aside0.mk (hbox); have n3_ := Aside0.mk ((by rw [hg]; exact (below_size (by repeat (first | (with_reducible first | exact HB.out | apply below_alloc | apply pw_below_drewN | apply below_drew1) | exact HB.out))) : w.heap.size ≤ gb348)); have n4_ := Aside0.mk ((by rw [hg]; exact (below_size (by repeat (first | (with_reducible first | exact HB.out | apply below_alloc | apply pw_below_drewN | apply below_drew1) | exact HB.out))) : w.heap.size ≤ gb348)); clear HO347; clear HB; have HO347 := n0_; have HB := n1_; have BK348 := n2_; have GW348 := n3_; have GE348 := n4_; clear n0_ n1_ n2_ n3_ n4_; clear hb hbox hg; have hcz18_0 : w17.cell? ⟨gb348, 0, none⟩ = some (.int .i64 0) := (blk_cell BK348.out 0).trans rfl; have hcz18_1 : w17.cell? ⟨gb348, 1, none⟩ = some (.slice none 0 0) := (blk_cell BK348.out 1).trans rfl; have hfz18_0 := blk_frozen BK348.out 0; have hfz18_1 := blk_frozen BK348.out 1; obtain ⟨Ao19, co19, eo19⟩ := Kd.R_slice HO347.out; subst eo19) | ((with_reducible refine gate_callee (f := 19) rfl ?_); refine goesL_ (some 34) rfl rfl Try.func19 (by kernel_rfl) rfl #[.int .i64 a4, .int .i64 5000] rfl (by (try simp only [List.map_toArray, List.map_cons, List.map_nil]); first | done | rfl | (simp only [List.length_drop, List.length_take]; rfl)) ?_; (with_reducible refine (dialtonelaw05_pick.calls a4 5000 t349 _ A10.out).mono ?_); rintro e w20 ⟨rfl, hb⟩; refine ⟨_, rfl, ?_⟩; have n0_ := Aside0.mk (Kd.R_below (by (with_reducible repeat (first | apply Kd.R_alloc | apply Kd.R_drewN | apply Kd.R_drew)); exact (Kd.R_mono (Kd.R_far (p := ⟨gb348, 1, none⟩) (Kd.R_far (p := ⟨gb348, 0, none⟩) (Kd.R_types HO347.out BK348.out (by decide)) (fun _ hk => hk.2) (.int .i64 t344)) (fun _ hk => hk.2) (.slice Ao19 t345.length co19)) (fun _ h_ => h_.1))) hb); have n1_ := Aside0.mk (blk_below (g := gb348) (o := .cells #[.int .i64 t344, .slice Ao19 t345.length co19] 24 (0, 0)) (by (with_reducible repeat (first | refine blk_drewN ?_ _ | refine blk_drew ?_ | refine blk_alloc ?_ _)); refine blk_put (cs := #[.int .i64 t344, .slice none 0 0]) ?_ 1 _ rfl; (with_reducible repeat (first | refine blk_drewN ?_ _ | refine blk_drew ?_ | refine blk_alloc ?_ _)); refine blk_put (cs := #[.int .i64 0, .slice none 0 0]) ?_ 0 _ rfl; (with_reducible repeat (first | refine blk_drewN ?_ _ | refine blk_drew ?_ | refine blk_alloc ?_ _)); exact BK348.out) hb); have n2_ := Aside0.mk (below_step (by repeat (first | (with_reducible first | exact HB.out | apply below_alloc | apply pw_below_drewN | apply below_drew1 | refine below_set ?_ GE348.out) | exact HB.out)) hb); clear HO347; clear BK348; clear HB; have HO347 := n0_; have BK348 := n1_; have HB := n2_; clear n0_ n1_ n2_; (try clear hb); (try clear hb2); (try clear hk); (try clear hi)) | ((with_reducible refine gate_callee (f := 19) rfl ?_); refine goesL_ (some 36) rfl rfl Try.func19 (by kernel_rfl) rfl #[.int .i64 a5, .int .i64 5000] rfl (by (try simp only [List.map_toArray, List.map_cons, List.map_nil]); first | done | rfl | (simp only [List.length_drop, List.length_take]; rfl)) ?_; (with_reducible refine (dialtonelaw05_pick.calls a5 5000 t350 _ A11.out).mono ?_); rintro e w21 ⟨rfl, hb⟩; refine ⟨_, rfl, ?_⟩; have n0_ := Aside0.mk (Kd.R_below (by (with_reducible repeat (first | apply Kd.R_alloc | apply Kd.R_drewN | apply Kd.R_drew)); exact HO347.out) hb); have n1_ := Aside0.mk (blk_below (g := gb348) (o := .cells #[.int .i64 t344, .slice Ao19 t345.length co19] 24 (0, 0)) (by (with_reducible repeat (first | refine blk_drewN ?_ _ | refine blk_drew ?_ | refine blk_alloc ?_ _)); exact BK348.out) hb); have n2_ := Aside0.mk (below_step (by repeat (first | (with_reducible first | exact HB.out | apply below_alloc | apply pw_below_drewN | apply below_drew1 | refine below_set ?_ GE348.out) | exact HB.out)) hb); clear HO347; clear BK348; clear HB; have HO347 := n0_; have BK348 := n1_; have HB := n2_; clear n0_ n1_ n2_; (try clear hb); (try clear hb2); (try clear hk); (try clear hi); have hcz22_0 : w21.cell? ⟨gb348, 0, none⟩ = some (.int .i64 t344) := (blk_cell BK348.out 0).trans rfl; have hcz22_1 : w21.cell? ⟨gb348, 1, none⟩ = some (.slice Ao19 t345.length co19) := (blk_cell BK348.out 1).trans rfl; have hfz22_0 := blk_frozen BK348.out 0; have hfz22_1 := blk_frozen BK348.out 1) | ((with_reducible refine gate_callee (f := 22) rfl ?_); refine goesL_ (some 40) rfl rfl Try.func22 (by kernel_rfl) rfl #[.agg #[.int .i64 t344, .slice Ao19 t345.length co19], .int .i64 t350] rfl (by (try simp only [List.map_toArray, List.map_cons, List.map_nil]); first | done | rfl | (simp only [List.length_drop, List.length_take]; rfl)) ?_; (with_reducible refine (clock_Reads.calls t344 _ _ t345 t350 t351 t352 t353 _ ?side1 ?side2 A12.out).mono ?_); (case side1 => repeat (first | exact (Kd.R_reads' HO347.out).2.2 | (with_reducible refine Kd.C_alloc ?_ _) | (with_reducible refine Kd.C_drewN ?_ _) | (with_reducible refine Kd.C_drew ?_))); (case side2 => exact (Kd.R_reads' HO347.out).2.1); rintro e w23 ⟨rfl, hb⟩; refine ⟨_, rfl, ?_⟩; have n0_ := Aside0.mk (Kd.R_below (by (with_reducible repeat (first | apply Kd.R_alloc | apply Kd.R_drewN | apply Kd.R_drew)); exact HO347.out) hb); have n1_ := Aside0.mk (blk_below (g := gb348) (o := .cells #[.int .i64 t344, .slice Ao19 t345.length co19] 24 (0, 0)) (by (with_reducible repeat (first | refine blk_drewN ?_ _ | refine blk_drew ?_ | refine blk_alloc ?_ _)); exact BK348.out) hb); have n2_ := Aside0.mk (below_step (by repeat (first | (with_reducible first | exact HB.out | apply below_alloc | apply pw_below_drewN | apply below_drew1 | refine below_set ?_ GE348.out) | exact HB.out)) hb); clear HO347; clear BK348; clear HB; have HO347 := n0_; have BK348 := n1_; have HB := n2_; clear n0_ n1_ n2_; (try clear hb); (try clear hb2); (try clear hk); (try clear hi)) | ((with_reducible refine gate_callee (f := 28) rfl ?_); refine goesL_ (some 55) rfl rfl Try.func28 (by kernel_rfl) rfl #[.int .i64 a0, .int .i64 a1, .slice A2 l2.length c2, .int .i64 t350] rfl (by (try simp only [List.map_toArray, List.map_cons, List.map_nil]); first | done | rfl | (simp only [List.length_drop, List.length_take]; rfl)) ?_; (with_reducible refine (dialtoneref05_Shown.calls k a0 a1 _ _ l2 t350 t354 _ ?side1 ?side2 A13.out).mono ?_); (case side1 => repeat (first | exact (Kd.C_below HR2.out HB.out) | (with_reducible refine Kd.C_alloc ?_ _) | (with_reducible refine Kd.C_drewN ?_ _) | (with_reducible refine Kd.C_drew ?_))); (case side2 => exact HC2.out); rintro e w24 ⟨rfl, hb⟩; refine ⟨_, rfl, ?_⟩; have n0_ := Aside0.mk (Kd.R_below (by (with_reducible repeat (first | apply Kd.R_alloc | apply Kd.R_drewN | apply Kd.R_drew)); exact HO347.out) hb); have n1_ := Aside0.mk (blk_below (g := gb348) (o := .cells #[.int .i64 t344, .slice Ao19 t345.length co19] 24 (0, 0)) (by (with_reducible repeat (first | refine blk_drewN ?_ _ | refine blk_drew ?_ | refine blk_alloc ?_ _)); exact BK348.out) hb); have n2_ := Aside0.mk (below_step (by repeat (first | (with_reducible first | exact HB.out | apply below_alloc | apply pw_below_drewN | apply below_drew1 | refine below_set ?_ GE348.out) | exact HB.out)) hb); clear HO347; clear BK348; clear HB; have HO347 := n0_; have BK348 := n1_; have HB := n2_; clear n0_ n1_ n2_; (try clear hb); (try clear hb2); (try clear hk); (try clear hi)) | ((with_reducible refine gate_callee (f := 19) rfl ?_); refine goesL_ (some 57) rfl rfl Try.func19 (by kernel_rfl) rfl #[.int .i64 a4, .int .i64 21] rfl (by (try simp only [List.map_toArray, List.map_cons, List.map_nil]); first | done | rfl | (simp only [List.length_drop, List.length_take]; rfl)) ?_; (with_reducible refine (dialtonelaw05_pick.calls a4 21 t355 _ A14.out).mono ?_); rintro e w25 ⟨rfl, hb⟩; refine ⟨_, rfl, ?_⟩; have n0_ := Aside0.mk (Kd.R_below (by (with_reducible repeat (first | apply Kd.R_alloc | apply Kd.R_drewN | apply Kd.R_drew)); exact HO347.out) hb); have n1_ := Aside0.mk (blk_below (g := gb348) (o := .cells #[.int .i64 t344, .slice Ao19 t345.length co19] 24 (0, 0)) (by (with_reducible repeat (first | refine blk_drewN ?_ _ | refine blk_drew ?_ | refine blk_alloc ?_ _)); exact BK348.out) hb); have n2_ := Aside0.mk (below_step (by repeat (first | (with_reducible first | exact HB.out | apply below_alloc | apply pw_below_drewN | apply below_drew1 | refine below_set ?_ GE348.out) | exact HB.out)) hb); clear HO347; clear BK348; clear HB; have HO347 := n0_; have BK348 := n1_; have HB := n2_; clear n0_ n1_ n2_; (try clear hb); (try clear hb2); (try clear hk); (try clear hi)) | ((with_reducible refine gate_dst (N := 60) rfl ?_); refine Kd.R_lit (Kd.int .i64) _ 3 ?hg (N := 60) ?hd (xs := ([t349, wrap64 (t351 - 1), t351, t352, wrap64 (t352 + 1), wrap64 ((wrap64 (t354 + t355)) - 10)] : List Int)) (inner := [.int .i64 t349, .int .i64 (wrap64 (t351 - 1)), .int .i64 t351, .int .i64 t352, .int .i64 (wrap64 (t352 + 1)), .int .i64 (wrap64 ((wrap64 (t354 + t355)) - 10))]) (ok := fun _ => True) (okp := fun _ => True) ?hr ?hp (fun _ hk => hk) trivial (Below.refl _ _) (Nat.le_refl _) (by simp) ?_; (case hd => rfl); (case hg => rfl); (case hr => first | (go_simp; done) | (go_simp; rfl)); (case hp => exact (Reps.one (show Kd.M (Kd.int .i64) _ _ _ t349 [.int .i64 t349] from rfl) (Reps.one (show Kd.M (Kd.int .i64) _ _ _ (wrap64 (t351 - 1)) [.int .i64 (wrap64 (t351 - 1))] from rfl) (Reps.one (show Kd.M (Kd.int .i64) _ _ _ t351 [.int .i64 t351] from rfl) (Reps.one (show Kd.M (Kd.int .i64) _ _ _ t352 [.int .i64 t352] from rfl) (Reps.one (show Kd.M (Kd.int .i64) _ _ _ (wrap64 (t352 + 1)) [.int .i64 (wrap64 (t352 + 1))] from rfl) (Reps.one (show Kd.M (Kd.int .i64) _ _ _ (wrap64 ((wrap64 (t354 + t355)) - 10)) [.int .i64 (wrap64 ((wrap64 (t354 + t355)) - 10))] from rfl) (Reps.none _ _)))))))); intro v357 w26 ho27 hb hg_ hnew_; clear hg_ hnew_; (first | rw [← Ny356.out] at ho27 | (simp only [Int.reduceToNat] at ho27; rw [← Ny356.out] at ho27)); have n0_ := Aside0.mk (Kd.R_below (by (with_reducible repeat (first | apply Kd.R_alloc | apply Kd.R_drewN | apply Kd.R_drew)); exact HO347.out) hb); have n1_ := Aside0.mk (Kd.R_lower ho27 (below_size (by repeat (first | (with_reducible first | exact HB.out | apply below_alloc | apply pw_below_drewN | apply below_drew1 | refine below_set ?_ GE348.out) | exact HB.out)))); have n2_ := Aside0.mk (blk_below (g := gb348) (o := .cells #[.int .i64 t344, .slice Ao19 t345.length co19] 24 (0, 0)) (by (with_reducible repeat (first | refine blk_drewN ?_ _ | refine blk_drew ?_ | refine blk_alloc ?_ _)); exact BK348.out) hb); have n3_ := Aside0.mk (below_step (by repeat (first | (with_reducible first | exact HB.out | apply below_alloc | apply pw_below_drewN | apply below_drew1 | refine below_set ?_ GE348.out) | exact HB.out)) hb); clear HO347; clear BK348; clear HB; have HO347 := n0_; have HO358 := n1_; have BK348 := n2_; have HB := n3_; clear n0_ n1_ n2_ n3_; clear hb ho27))
    go_loopg [20] k (fun kq v20 w' => ∃ (x20_1 : Int), v20 = .int .i64 x20_1 ∧ Aside0 (dialtonelaw05_ClockInverse.l0 kq t350 true t351 t352 t353 y356 x20_1 t344 t345 = some r) ∧ Aside0 (kq ≤ k) ∧ Aside0 (Kd.R (Kd.int .i64) 3 w' w.heap.size (fun _ => True) v357 y356) ∧ Aside0 (Kd.R k50 50 w' w.heap.size (fun _ => True) (.slice Ao19 t345.length co19) t345) ∧ Aside0 (w'.heap[gb348]? = some (.cells #[.int .i64 t344, (.slice Ao19 t345.length co19)] 24 (0, 0))) ∧ Aside0 (Below w.heap.size w w'))
    case atStart => exact ⟨(0), (by first | rfl | (simp; done) | (simp [*]; done)), H', ⟨Nat.le_refl _⟩, ⟨by (with_reducible repeat (first | apply Kd.R_alloc | apply Kd.R_drewN | apply Kd.R_drew)); exact HO358.out⟩, ⟨by (with_reducible repeat (first | apply Kd.R_alloc | apply Kd.R_drewN | apply Kd.R_drew)); exact HO347.out⟩, ⟨by (with_reducible repeat (first | refine blk_drewN ?_ _ | refine blk_drew ?_ | refine blk_alloc ?_ _)); exact BK348.out⟩, ⟨by repeat (first | (with_reducible first | exact HB.out | apply below_alloc | apply pw_below_drewN | apply below_drew1 | refine below_set ?_ GE348.out) | exact HB.out)⟩⟩
    case round =>
      clear H'
      try clear c1
      try clear c2
      try clear p2
      try clear c3
      try clear p6
      try clear c7
      try clear c8
      try clear c10
      try clear c16
      try clear c19
      try clear c22
      try clear hcz18_0
      try clear hcz18_1
      try clear hcz22_0
      try clear hcz22_1
      try clear hfz18_0
      try clear hfz18_1
      try clear hfz22_0
      try clear hfz22_1
      obtain ⟨x20_1, rfl, HA, HK1, HO_19, HO_349001, BK348, HB⟩ := hrel
      cases gk with
      | zero => exact absurd HA.out (by simp [dialtonelaw05_ClockInverse.l0])
      | succ k1 =>
        have H := HA.out
        clear HA
        simp only [dialtonelaw05_ClockInverse.l0] at H
        by_cases c28 : x20_1 < (y356.length : Int)
        · rw [if_pos c28] at H
          have c28b0 : decide (x20_1 < (y356.length : Int)) = true := decide_eq_true c28
          clear c28
          have HC29 := Aside0.mk H
          clear H
          obtain ⟨Ao30, co30, eo30⟩ := Kd.R_slice HO_19.out
          subst eo30
          go_upto_region 12 with (fail)
          go_cut [78] (fun v78 wc => ∃ (kq : Nat) (x78_28 : Bool), v78 = .bool x78_28 ∧ Aside0 (dialtonelaw05_ClockInverse.j1 kq t350 true t351 t352 t353 y356 x20_1 x78_28 t344 t345 = some r) ∧ Aside0 (kq ≤ k1) ∧ Aside0 (Kd.R (Kd.int .i64) 3 wc w.heap.size (fun _ => True) (.slice Ao30 y356.length co30) y356) ∧ Aside0 (Kd.R k50 50 wc w.heap.size (fun _ => True) (.slice Ao19 t345.length co19) t345) ∧ Aside0 (wc.heap[gb348]? = some (.cells #[.int .i64 t344, (.slice Ao19 t345.length co19)] 24 (0, 0))) ∧ Aside0 (Below w.heap.size w wc))
          case first =>
            have H := HC29.out
            clear HC29
            by_cases c31 : 0 ≤ x20_1
            · rw [if_pos c31] at H
              have c31b0 : decide (0 ≤ x20_1) = true := decide_eq_true c31
              clear c31
              (first | rw [c31b0] | (simp only [i64_w, i32_w]; rw [c31b0]) | skip)
              by_cases c32 : (rd y356 x20_1) < 0
              · rw [if_pos c32] at H
                have c32b0 : decide ((rd y356 x20_1) < 0) = true := decide_eq_true c32
                clear c32
                have H' := Aside0.mk H
                clear H
                have p359 : 0 ≤ (x20_1 : Int) := of_decide_eq_true (by first | (with_reducible assumption) | assumption)
                have q359 : x20_1 < (y356.length : Int) := of_decide_eq_true (by first | (with_reducible assumption) | assumption)
                obtain ⟨ad359, e359, hx359_0⟩ := Kd.at_int (Kd.R_reads' HO_19.out).2.2 x20_1 p359 q359
                cases e359
                replace p359 := eq_true p359
                replace q359 := eq_true q359
                go_wp2
                go_meet
                case rel => exact ⟨_, (true), (by first | rfl | (simp; done) | (simp [*]; done)), H', ⟨by have := HK1.out; first | omega | exact Nat.le_refl _⟩, ⟨by (with_reducible repeat (first | apply Kd.R_alloc | apply Kd.R_drewN | apply Kd.R_drew)); exact HO_19.out⟩, ⟨by (with_reducible repeat (first | apply Kd.R_alloc | apply Kd.R_drewN | apply Kd.R_drew)); exact HO_349001.out⟩, ⟨by (with_reducible repeat (first | refine blk_drewN ?_ _ | refine blk_drew ?_ | refine blk_alloc ?_ _)); exact BK348.out⟩, ⟨by repeat (first | (with_reducible first | exact HB.out | apply below_alloc | apply pw_below_drewN | apply below_drew1 | refine below_set ?_ GE348.out) | exact HB.out)⟩⟩
              · rw [if_neg c32] at H
                have c32b0 : decide ((rd y356 x20_1) < 0) = false := decide_eq_false c32
                clear c32
                have H' := Aside0.mk H
                clear H
                have p359 : 0 ≤ (x20_1 : Int) := of_decide_eq_true (by first | (with_reducible assumption) | assumption)
                have q359 : x20_1 < (y356.length : Int) := of_decide_eq_true (by first | (with_reducible assumption) | assumption)
                obtain ⟨ad359, e359, hx359_0⟩ := Kd.at_int (Kd.R_reads' HO_19.out).2.2 x20_1 p359 q359
                cases e359
                replace p359 := eq_true p359
                replace q359 := eq_true q359
                have p360 : 0 ≤ (x20_1 : Int) := of_decide_eq_true (by first | (with_reducible assumption) | assumption)
                have q360 : x20_1 < (y356.length : Int) := of_decide_eq_true (by first | (with_reducible assumption) | assumption)
                obtain ⟨ad360, e360, hx360_0⟩ := Kd.at_int (Kd.R_reads' HO_19.out).2.2 x20_1 p360 q360
                obtain rfl : ad359 = ad360 := (by injection e360)
                replace p360 := eq_true p360
                replace q360 := eq_true q360
                go_wp2
                go_meet
                case rel => exact ⟨_, (decide ((rd y356 x20_1) > 10000000)), (by first | rfl | (simp; done) | (simp [*]; done)), H', ⟨by have := HK1.out; first | omega | exact Nat.le_refl _⟩, ⟨by (with_reducible repeat (first | apply Kd.R_alloc | apply Kd.R_drewN | apply Kd.R_drew)); exact HO_19.out⟩, ⟨by (with_reducible repeat (first | apply Kd.R_alloc | apply Kd.R_drewN | apply Kd.R_drew)); exact HO_349001.out⟩, ⟨by (with_reducible repeat (first | refine blk_drewN ?_ _ | refine blk_drew ?_ | refine blk_alloc ?_ _)); exact BK348.out⟩, ⟨by repeat (first | (with_reducible first | exact HB.out | apply below_alloc | apply pw_below_drewN | apply below_drew1 | refine below_set ?_ GE348.out) | exact HB.out)⟩⟩
            · rw [if_neg c31] at H
              exact absurd H (by simp)
          case rest =>
            clear HC29
            try clear c1
            try clear c2
            try clear p2
            try clear c3
            try clear p3
            try clear q3
            try clear hx3
            try clear p6
            try clear c7
            try clear c8
            try clear c10
            try clear c16
            try clear c19
            try clear c22
            try clear c28
            try clear c28b0
            try clear c31
            try clear c31b0
            try clear c32
            try clear c32b0
            try clear hcz18_0
            try clear hcz18_1
            try clear hcz22_0
            try clear hcz22_1
            try clear hfz18_0
            try clear hfz18_1
            try clear hfz22_0
            try clear hfz22_1
            try clear hx359_0
            try clear hx360_0
            try clear p2
            try clear p359
            try clear p360
            try clear p6
            try clear q359
            try clear q360
            obtain ⟨kq, x78_28, rfl, HA, HJ28, HO_19, HO_349001, BK348, HB⟩ := hcut
            cases kq with
            | zero => exact absurd HA.out (by simp [dialtonelaw05_ClockInverse.j1])
            | succ kj28 =>
              have H := HA.out
              clear HA
              simp only [dialtonelaw05_ClockInverse.j1] at H
              by_cases c33 : x78_28 = true
              · subst c33
                have H1 : (dialtonelaw05_ClockInverse.l0 kj28 t350 true t351 t352 t353 y356 (wrap64 (x20_1 + 1)) t344 t345) = some r := by rw [if_pos rfl] at H; exact H
                clear H
                have H := H1
                clear H1
                have H' := Aside0.mk H
                clear H
                go_wp2
                go_roundg kj28
                case measure => have := HK1.out; have := HJ28.out; omega
                case rel => exact ⟨(wrap64 (x20_1 + 1)), (by first | rfl | (simp; done) | (simp [*]; done)), H', ⟨by have := HK1.out; have := HJ28.out; omega⟩, ⟨by (with_reducible repeat (first | apply Kd.R_alloc | apply Kd.R_drewN | apply Kd.R_drew)); exact HO_19.out⟩, ⟨by (with_reducible repeat (first | apply Kd.R_alloc | apply Kd.R_drewN | apply Kd.R_drew)); exact HO_349001.out⟩, ⟨by (with_reducible repeat (first | refine blk_drewN ?_ _ | refine blk_drew ?_ | refine blk_alloc ?_ _)); exact BK348.out⟩, ⟨by repeat (first | (with_reducible first | exact HB.out | apply below_alloc | apply pw_below_drewN | apply below_drew1 | refine below_set ?_ GE348.out) | exact HB.out)⟩⟩
              · replace c33 := Bool.eq_false_iff.mpr c33
                subst c33
                have H1 : (if 0 ≤ x20_1 then (if x20_1 < (y356.length : Int) then ((clock_At.f kj28 t344 t345 (rd y356 x20_1)).bind fun bt362 => (if bt362.2.2 = 0 then (if bt362.1 ≤ t350 then (dialtonelaw05_ClockInverse.j2 kj28 t350 true t351 t352 t353 y356 x20_1 (decide (t350 ≤ bt362.2.1)) t344 t345) else (dialtonelaw05_ClockInverse.j2 kj28 t350 true t351 t352 t353 y356 x20_1 false t344 t345)) else (dialtonelaw05_ClockInverse.j2 kj28 t350 true t351 t352 t353 y356 x20_1 false t344 t345))) else (none)) else (none)) = some r := by rw [if_neg (show ¬ (false = true) by decide)] at H; exact H
                clear H
                have H := H1
                clear H1
                by_cases c34 : 0 ≤ x20_1
                · rw [if_pos c34] at H
                  have c34b0 : decide (0 ≤ x20_1) = true := decide_eq_true c34
                  clear c34
                  by_cases c35 : x20_1 < (y356.length : Int)
                  · rw [if_pos c35] at H
                    have c35b0 : decide (x20_1 < (y356.length : Int)) = true := decide_eq_true c35
                    clear c35
                    replace H := Option.bind_eq_some_iff.mp H
                    obtain ⟨⟨t362, t363, t364⟩, A360, H⟩ := H
                    replace H : (if t364 = 0 then (if t362 ≤ t350 then (dialtonelaw05_ClockInverse.j2 kj28 t350 true t351 t352 t353 y356 x20_1 (decide (t350 ≤ t363)) t344 t345) else (dialtonelaw05_ClockInverse.j2 kj28 t350 true t351 t352 t353 y356 x20_1 false t344 t345)) else (dialtonelaw05_ClockInverse.j2 kj28 t350 true t351 t352 t353 y356 x20_1 false t344 t345)) = some r := H
                    have A36 := Aside0.mk A360
                    clear A360
                    have HC37 := Aside0.mk H
                    clear H
                    try go_wp2
                    have n0_ := Aside0.mk (Kd.R_drew HO_19.out)
                    have n1_ := Aside0.mk (Kd.R_drew HO_349001.out)
                    have n2_ := Aside0.mk (blk_drew BK348.out)
                    have n3_ := Aside0.mk (below_drew1 HB.out)
                    clear HO_19
                    clear HO_349001
                    clear BK348
                    clear HB
                    have HO_19 := n0_
                    have HO_349001 := n1_
                    have BK348 := n2_
                    have HB := n3_
                    clear n0_ n1_ n2_ n3_
                    have p361 : 0 ≤ (x20_1 : Int) := of_decide_eq_true (by first | (with_reducible assumption) | assumption)
                    have q361 : x20_1 < (y356.length : Int) := of_decide_eq_true (by first | (with_reducible assumption) | assumption)
                    obtain ⟨ad361, e361, hx361_0⟩ := Kd.at_int (Kd.R_reads' HO_19.out).2.2 x20_1 p361 q361
                    cases e361
                    replace p361 := eq_true p361
                    replace q361 := eq_true q361
                    refine start_ (n := 13) (S := fun w' => w'.cell? ⟨gb348, 0, none⟩ = some (.int .i64 t344) ∧ w'.cell? ⟨gb348, 1, none⟩ = some (.slice Ao19 t345.length co19) ∧ w'.cell? (ad361.add (x20_1).toNat) = some (.int .i64 (rd y356 x20_1))) (ds := []) #[false, false, false, false, false, false, false, false, false, false, false, false, false] (by kernel_rfl) rfl rfl ⟨(blk_cell BK348.out 0).trans rfl, (blk_cell BK348.out 1).trans rfl, hx361_0⟩ (fun hHeld => ?_); refine with_tabW dialtonelaw05_ClockInverse.tab13 dialtonelaw05_ClockInverse.bits13 (fun HT_ HW_ => ?_)
                    generalize wc.drew = w38 at HO_19 HO_349001 BK348 HB hx361_0 hHeld ⊢
                    refine pure_ (i := 1) (N := some 81) (v := ?_) (a' := ?_) #[false, true, false, false, false, false, false, false, false, false, false, false, false] rfl rfl (any_of HT_.out (by kernel_rfl)) (fun _ _ _ h => h) (Or.inl ⟨by rfl, ?_⟩) ?_ ?_
                    rotate_left
                    · intro w'
                      go_simp
                      with_reducible rfl
                    rotate_left
                    · simp only [Act.put, List.setIfInBounds_toArray, List.set_cons_zero, List.set_cons_succ, i64_w, i32_w]
                      rfl
                    refine pure_ (i := 2) (N := some 82) (v := ?_) (a' := ?_) #[false, true, true, false, false, false, false, false, false, false, false, false, false] rfl rfl (any_of HT_.out (by kernel_rfl)) (fun _ _ _ h => h) (Or.inl ⟨by rfl, ?_⟩) ?_ ?_
                    rotate_left
                    · intro w'
                      go_simp
                      with_reducible rfl
                    rotate_left
                    · simp only [Act.put, List.setIfInBounds_toArray, List.set_cons_zero, List.set_cons_succ, i64_w, i32_w]
                      rfl
                    refine pure_ (i := 3) (N := some 83) (v := ?_) (a' := ?_) #[false, true, true, true, false, false, false, false, false, false, false, false, false] rfl rfl (any_of HT_.out (by kernel_rfl)) (fun _ _ _ h => h) (Or.inl ⟨by rfl, ?_⟩) ?_ ?_
                    rotate_left
                    · intro w'
                      go_simp
                      with_reducible rfl
                    rotate_left
                    · simp only [Act.put, List.setIfInBounds_toArray, List.set_cons_zero, List.set_cons_succ, i64_w, i32_w]
                      rfl
                    refine take_ (i := 0) (N := some 80) (v := ?_) (a' := ?_) #[true, true, true, true, false, false, false, false, false, false, false, false, false] rfl rfl (take_ofW HT_.out HW_.out (by kernel_rfl)) (fun _ _ _ h => h) (Or.inl ⟨by rfl, ?_⟩) hHeld ?_ ?_
                    rotate_left
                    · rintro w' ⟨s0, s1, s2⟩
                      go_simp
                      with_reducible rfl
                    rotate_left
                    · simp only [Act.put, List.setIfInBounds_toArray, List.set_cons_zero, List.set_cons_succ, i64_w, i32_w]
                      rfl
                    refine take_ (i := 4) (N := some 84) (v := ?_) (a' := ?_) #[true, true, true, true, true, false, false, false, false, false, false, false, false] rfl rfl (take_ofW HT_.out HW_.out (by kernel_rfl)) (fun _ _ _ h => h) (Or.inl ⟨by rfl, ?_⟩) hHeld ?_ ?_
                    rotate_left
                    · rintro w' ⟨s0, s1, s2⟩
                      go_simp
                      with_reducible rfl
                    rotate_left
                    · simp only [Act.put, List.setIfInBounds_toArray, List.set_cons_zero, List.set_cons_succ, i64_w, i32_w]
                      rfl
                    refine one_ (i := 5) (N := some 85) #[true, true, true, true, true, true, false, false, false, false, false, false, false] rfl rfl (one_of HT_.out (by kernel_rfl)) (by decide) (fun K hK => ?_)
                    refine goes_ Try.func20 (by kernel_rfl) rfl #[.agg #[.int .i64 t344, .slice Ao19 t345.length co19], .int .i64 (rd y356 x20_1)] (by rfl) rfl rfl (by (try simp only [List.map_toArray, List.map_cons, List.map_nil]); first | done | rfl | (simp only [List.length_drop, List.length_take]; rfl)) ?_
                    with_reducible refine (clock_At.calls kj28 t344 _ _ t345 (rd y356 x20_1) t362 t363 t364 _ ?side1 ?side2 A36.out).mono ?_
                    (case side1 => repeat (first | exact (Kd.R_reads' HO_349001.out).2.2 | (with_reducible refine Kd.C_alloc ?_ _) | (with_reducible refine Kd.C_drewN ?_ _) | (with_reducible refine Kd.C_drew ?_)))
                    (case side2 => exact (Kd.R_reads' HO_349001.out).2.1)
                    rintro e w39 ⟨rfl, hb⟩
                    have HS2_ := (hb.cell (World.block_lt_of_cell? _ _ (hHeld.2.2))).trans (hHeld.2.2)
                    refine ⟨_, rfl, ?_⟩
                    have n0_ := Aside0.mk (Kd.R_below (by (with_reducible repeat (first | apply Kd.R_alloc | apply Kd.R_drewN | apply Kd.R_drew)); exact HO_19.out) hb)
                    have n1_ := Aside0.mk (Kd.R_below (by (with_reducible repeat (first | apply Kd.R_alloc | apply Kd.R_drewN | apply Kd.R_drew)); exact HO_349001.out) hb)
                    have n2_ := Aside0.mk (blk_below (g := gb348) (o := .cells #[.int .i64 t344, .slice Ao19 t345.length co19] 24 (0, 0)) (by (with_reducible repeat (first | refine blk_drewN ?_ _ | refine blk_drew ?_ | refine blk_alloc ?_ _)); exact BK348.out) hb)
                    have n3_ := Aside0.mk (below_step (by repeat (first | (with_reducible first | exact HB.out | apply below_alloc | apply pw_below_drewN | apply below_drew1 | refine below_set ?_ GE348.out) | exact HB.out)) hb)
                    clear HO_19
                    clear HO_349001
                    clear BK348
                    clear HB
                    have HO_19 := n0_
                    have HO_349001 := n1_
                    have BK348 := n2_
                    have HB := n3_
                    clear n0_ n1_ n2_ n3_
                    (try clear hb)
                    (try clear hb2)
                    (try clear hk)
                    (try clear hi)
                    refine hK.out _ _ ⟨(blk_cell BK348.out 0).trans rfl, (blk_cell BK348.out 1).trans rfl, HS2_⟩ (fun hHeld => ?_)
                    clear hK K
                    refine norm_ (a' := ?_) ?_ ?_
                    rotate_left
                    · show Act.put _ (some 85) _ = _
                      simp only [Act.put, List.setIfInBounds_toArray, List.set_cons_zero, List.set_cons_succ, i64_w, i32_w]
                      rfl
                    refine pure_ (i := 6) (N := some 79) (v := ?_) (a' := ?_) #[true, true, true, true, true, true, true, false, false, false, false, false, false] rfl rfl (any_of HT_.out (by kernel_rfl)) (fun _ _ _ h => h) (Or.inl ⟨by rfl, ?_⟩) ?_ ?_
                    rotate_left
                    · intro w'
                      go_simp
                      with_reducible rfl
                    rotate_left
                    · simp only [Act.put, List.setIfInBounds_toArray, List.set_cons_zero, List.set_cons_succ, i64_w, i32_w]
                      rfl
                    refine pure_ (i := 7) (N := some 86) (v := ?_) (a' := ?_) #[true, true, true, true, true, true, true, true, false, false, false, false, false] rfl rfl (any_of HT_.out (by kernel_rfl)) (fun _ _ _ h => h) (Or.inl ⟨by rfl, ?_⟩) ?_ ?_
                    rotate_left
                    · intro w'
                      go_simp
                      with_reducible rfl
                    rotate_left
                    · simp only [Act.put, List.setIfInBounds_toArray, List.set_cons_zero, List.set_cons_succ, i64_w, i32_w]
                      rfl
                    refine pure_ (i := 8) (N := some 87) (v := ?_) (a' := ?_) #[true, true, true, true, true, true, true, true, true, false, false, false, false] rfl rfl (any_of HT_.out (by kernel_rfl)) (fun _ _ _ h => h) (Or.inl ⟨by rfl, ?_⟩) ?_ ?_
                    rotate_left
                    · intro w'
                      go_simp
                      with_reducible rfl
                    rotate_left
                    · simp only [Act.put, List.setIfInBounds_toArray, List.set_cons_zero, List.set_cons_succ, i64_w, i32_w]
                      rfl
                    refine pure_ (i := 9) (N := some 88) (v := ?_) (a' := ?_) #[true, true, true, true, true, true, true, true, true, true, false, false, false] rfl rfl (any_of HT_.out (by kernel_rfl)) (fun _ _ _ h => h) (Or.inl ⟨by rfl, ?_⟩) ?_ ?_
                    rotate_left
                    · intro w'
                      go_simp
                      with_reducible rfl
                    rotate_left
                    · simp only [Act.put, List.setIfInBounds_toArray, List.set_cons_zero, List.set_cons_succ, i64_w, i32_w]
                      rfl
                    refine pure_ (i := 10) (N := some 21) (v := ?_) (a' := ?_) #[true, true, true, true, true, true, true, true, true, true, true, false, false] rfl rfl (any_of HT_.out (by kernel_rfl)) (fun _ _ _ h => h) (Or.inl ⟨by rfl, ?_⟩) ?_ ?_
                    rotate_left
                    · intro w'
                      go_simp
                      with_reducible rfl
                    rotate_left
                    · simp only [Act.put, List.setIfInBounds_toArray, List.set_cons_zero, List.set_cons_succ, i64_w, i32_w]
                      rfl
                    refine pure_ (i := 11) (N := some 22) (v := ?_) (a' := ?_) #[true, true, true, true, true, true, true, true, true, true, true, true, false] rfl rfl (any_of HT_.out (by kernel_rfl)) (fun _ _ _ h => h) (Or.inl ⟨by rfl, ?_⟩) ?_ ?_
                    rotate_left
                    · intro w'
                      go_simp
                      with_reducible rfl
                    rotate_left
                    · simp only [Act.put, List.setIfInBounds_toArray, List.set_cons_zero, List.set_cons_succ, i64_w, i32_w]
                      rfl
                    refine pure_ (i := 12) (N := some 23) (v := ?_) (a' := ?_) #[true, true, true, true, true, true, true, true, true, true, true, true, true] rfl rfl (any_of HT_.out (by kernel_rfl)) (fun _ _ _ h => h) (Or.inl ⟨by rfl, ?_⟩) ?_ ?_
                    rotate_left
                    · intro w'
                      go_simp
                      with_reducible rfl
                    rotate_left
                    · simp only [Act.put, List.setIfInBounds_toArray, List.set_cons_zero, List.set_cons_succ, i64_w, i32_w]
                      rfl
                    refine done_ (done_of HT_.out (by kernel_rfl)) ?_
                    go_upto_region 14 with (fail)
                    go_cut [24] (fun v24 wc => ∃ (kq : Nat) (x24_36 : Bool), v24 = .bool x24_36 ∧ Aside0 (dialtonelaw05_ClockInverse.j2 kq t350 true t351 t352 t353 y356 x20_1 x24_36 t344 t345 = some r) ∧ Aside0 (kq ≤ kj28) ∧ Aside0 (Kd.R (Kd.int .i64) 3 wc w.heap.size (fun _ => True) (.slice (some ad361) y356.length co30) y356) ∧ Aside0 (Kd.R k50 50 wc w.heap.size (fun _ => True) (.slice Ao19 t345.length co19) t345) ∧ Aside0 (wc.heap[gb348]? = some (.cells #[.int .i64 t344, (.slice Ao19 t345.length co19)] 24 (0, 0))) ∧ Aside0 (Below w.heap.size w wc))
                    case first =>
                      have H := HC37.out
                      clear HC37
                      by_cases c40 : t364 = 0
                      · rw [if_pos c40] at H
                        have c40b0 : (t364 == 0) = true := beq_iff_eq.mpr c40
                        have c40b1 : (t364 != 0) = false := bne_eq_false_iff_eq.mpr c40
                        clear c40
                        (first | rw [c40b0] | (simp only [i64_w, i32_w]; rw [c40b0]) | skip)
                        by_cases c41 : t362 ≤ t350
                        · rw [if_pos c41] at H
                          have c41b0 : decide (t362 ≤ t350) = true := decide_eq_true c41
                          clear c41
                          have H' := Aside0.mk H
                          clear H
                          go_wp2
                          go_meet
                          case rel => exact ⟨_, (decide (t350 ≤ t363)), (by first | rfl | (simp; done) | (simp [*]; done)), H', ⟨by have := HK1.out; have := HJ28.out; first | omega | exact Nat.le_refl _⟩, ⟨by (with_reducible repeat (first | apply Kd.R_alloc | apply Kd.R_drewN | apply Kd.R_drew)); exact HO_19.out⟩, ⟨by (with_reducible repeat (first | apply Kd.R_alloc | apply Kd.R_drewN | apply Kd.R_drew)); exact HO_349001.out⟩, ⟨by (with_reducible repeat (first | refine blk_drewN ?_ _ | refine blk_drew ?_ | refine blk_alloc ?_ _)); exact BK348.out⟩, ⟨by repeat (first | (with_reducible first | exact HB.out | apply below_alloc | apply pw_below_drewN | apply below_drew1 | refine below_set ?_ GE348.out) | exact HB.out)⟩⟩
                        · rw [if_neg c41] at H
                          have c41b0 : decide (t362 ≤ t350) = false := decide_eq_false c41
                          clear c41
                          have H' := Aside0.mk H
                          clear H
                          go_wp2
                          go_meet
                          case rel => exact ⟨_, (false), (by first | rfl | (simp; done) | (simp [*]; done)), H', ⟨by have := HK1.out; have := HJ28.out; first | omega | exact Nat.le_refl _⟩, ⟨by (with_reducible repeat (first | apply Kd.R_alloc | apply Kd.R_drewN | apply Kd.R_drew)); exact HO_19.out⟩, ⟨by (with_reducible repeat (first | apply Kd.R_alloc | apply Kd.R_drewN | apply Kd.R_drew)); exact HO_349001.out⟩, ⟨by (with_reducible repeat (first | refine blk_drewN ?_ _ | refine blk_drew ?_ | refine blk_alloc ?_ _)); exact BK348.out⟩, ⟨by repeat (first | (with_reducible first | exact HB.out | apply below_alloc | apply pw_below_drewN | apply below_drew1 | refine below_set ?_ GE348.out) | exact HB.out)⟩⟩
                      · rw [if_neg c40] at H
                        have c40b0 : (t364 == 0) = false := beq_eq_false_iff_ne.mpr c40
                        have c40b1 : (t364 != 0) = true := bne_iff_ne.mpr c40
                        (first | rw [c40b0] | (simp only [i64_w, i32_w]; rw [c40b0]) | skip)
                        have H' := Aside0.mk H
                        clear H
                        go_wp2
                        go_meet
                        case rel => exact ⟨_, (false), (by first | rfl | (simp; done) | (simp [*]; done)), H', ⟨by have := HK1.out; have := HJ28.out; first | omega | exact Nat.le_refl _⟩, ⟨by (with_reducible repeat (first | apply Kd.R_alloc | apply Kd.R_drewN | apply Kd.R_drew)); exact HO_19.out⟩, ⟨by (with_reducible repeat (first | apply Kd.R_alloc | apply Kd.R_drewN | apply Kd.R_drew)); exact HO_349001.out⟩, ⟨by (with_reducible repeat (first | refine blk_drewN ?_ _ | refine blk_drew ?_ | refine blk_alloc ?_ _)); exact BK348.out⟩, ⟨by repeat (first | (with_reducible first | exact HB.out | apply below_alloc | apply pw_below_drewN | apply below_drew1 | refine below_set ?_ GE348.out) | exact HB.out)⟩⟩
                    case rest =>
                      clear HC37
                      try clear c1
                      try clear c2
                      try clear p2
                      try clear c3
                      try clear p3
                      try clear q3
                      try clear hx3
                      try clear c4
                      try clear p6
                      try clear c7
                      try clear c8
                      try clear c10
                      try clear c16
                      try clear c19
                      try clear c20
                      try clear c22
                      try clear c28
                      try clear c28b0
                      try clear c31
                      try clear c31b0
                      try clear c32
                      try clear c32b0
                      try clear c33
                      try clear c34
                      try clear c34b0
                      try clear c35
                      try clear c35b0
                      try clear p35
                      try clear q35
                      try clear hx35
                      try clear p36
                      try clear q36
                      try clear hx36
                      try clear c40
                      try clear c40b0
                      try clear c40b1
                      try clear c41
                      try clear c41b0
                      try clear hcz18_0
                      try clear hcz18_1
                      try clear hcz22_0
                      try clear hcz22_1
                      try clear hfz18_0
                      try clear hfz18_1
                      try clear hfz22_0
                      try clear hfz22_1
                      try clear hx359_0
                      try clear hx360_0
                      try clear hx361_0
                      try clear p2
                      try clear p3
                      try clear p359
                      try clear p360
                      try clear p361
                      try clear p6
                      try clear q3
                      try clear q359
                      try clear q360
                      try clear q361
                      obtain ⟨kq, x24_36, rfl, HA, HJ36, HO_19, HO_349001, BK348, HB⟩ := hcut
                      cases kq with
                      | zero => exact absurd HA.out (by simp [dialtonelaw05_ClockInverse.j2])
                      | succ kj36 =>
                        have H := HA.out
                        clear HA
                        simp only [dialtonelaw05_ClockInverse.j2] at H
                        have HC42 := Aside0.mk H
                        clear H
                        go_upto_region 15 with (fail)
                        go_cut [120] (fun v120 wc => ∃ (kq : Nat) (x120_41 : Bool), v120 = .bool x120_41 ∧ Aside0 (dialtonelaw05_ClockInverse.j3 kq t350 true t351 t352 t353 y356 x20_1 x120_41 t344 t345 = some r) ∧ Aside0 (kq ≤ kj36) ∧ Aside0 (Kd.R (Kd.int .i64) 3 wc w.heap.size (fun _ => True) (.slice (some ad361) y356.length co30) y356) ∧ Aside0 (Kd.R k50 50 wc w.heap.size (fun _ => True) (.slice Ao19 t345.length co19) t345) ∧ Aside0 (wc.heap[gb348]? = some (.cells #[.int .i64 t344, (.slice Ao19 t345.length co19)] 24 (0, 0))) ∧ Aside0 (Below w.heap.size w wc))
                        case first =>
                          have H := HC42.out
                          clear HC42
                          by_cases c43 : t353 = 0
                          · rw [if_pos c43] at H
                            have c43b0 : (t353 == 0) = true := beq_iff_eq.mpr c43
                            have c43b1 : (t353 != 0) = false := bne_eq_false_iff_eq.mpr c43
                            clear c43
                            (first | rw [c43b0] | (simp only [i64_w, i32_w]; rw [c43b0]) | skip)
                            by_cases c44 : 0 ≤ x20_1
                            · rw [if_pos c44] at H
                              have c44b0 : decide (0 ≤ x20_1) = true := decide_eq_true c44
                              clear c44
                              by_cases c45 : x20_1 < (y356.length : Int)
                              · rw [if_pos c45] at H
                                have c45b0 : decide (x20_1 < (y356.length : Int)) = true := decide_eq_true c45
                                clear c45
                                by_cases c46 : t351 ≤ (rd y356 x20_1)
                                · rw [if_pos c46] at H
                                  have c46b0 : decide (t351 ≤ (rd y356 x20_1)) = true := decide_eq_true c46
                                  clear c46
                                  have H' := Aside0.mk H
                                  clear H
                                  have p365 : 0 ≤ (x20_1 : Int) := of_decide_eq_true (by first | (with_reducible assumption) | assumption)
                                  have q365 : x20_1 < (y356.length : Int) := of_decide_eq_true (by first | (with_reducible assumption) | assumption)
                                  obtain ⟨ad365, e365, hx365_0⟩ := Kd.at_int (Kd.R_reads' HO_19.out).2.2 x20_1 p365 q365
                                  obtain rfl : ad361 = ad365 := (by injection e365)
                                  replace p365 := eq_true p365
                                  replace q365 := eq_true q365
                                  have p366 : 0 ≤ (x20_1 : Int) := of_decide_eq_true (by first | (with_reducible assumption) | assumption)
                                  have q366 : x20_1 < (y356.length : Int) := of_decide_eq_true (by first | (with_reducible assumption) | assumption)
                                  obtain ⟨ad366, e366, hx366_0⟩ := Kd.at_int (Kd.R_reads' HO_19.out).2.2 x20_1 p366 q366
                                  obtain rfl : ad361 = ad366 := (by injection e366)
                                  replace p366 := eq_true p366
                                  replace q366 := eq_true q366
                                  go_wp2
                                  go_meet
                                  case rel => exact ⟨_, ((x24_36 != (decide ((rd y356 x20_1) ≤ t352)))), (by first | rfl | (simp; done) | (simp [*]; done)), H', ⟨by have := HK1.out; have := HJ28.out; have := HJ36.out; first | omega | exact Nat.le_refl _⟩, ⟨by (with_reducible repeat (first | apply Kd.R_alloc | apply Kd.R_drewN | apply Kd.R_drew)); exact HO_19.out⟩, ⟨by (with_reducible repeat (first | apply Kd.R_alloc | apply Kd.R_drewN | apply Kd.R_drew)); exact HO_349001.out⟩, ⟨by (with_reducible repeat (first | refine blk_drewN ?_ _ | refine blk_drew ?_ | refine blk_alloc ?_ _)); exact BK348.out⟩, ⟨by repeat (first | (with_reducible first | exact HB.out | apply below_alloc | apply pw_below_drewN | apply below_drew1 | refine below_set ?_ GE348.out) | exact HB.out)⟩⟩
                                · rw [if_neg c46] at H
                                  have c46b0 : decide (t351 ≤ (rd y356 x20_1)) = false := decide_eq_false c46
                                  clear c46
                                  have H' := Aside0.mk H
                                  clear H
                                  have p365 : 0 ≤ (x20_1 : Int) := of_decide_eq_true (by first | (with_reducible assumption) | assumption)
                                  have q365 : x20_1 < (y356.length : Int) := of_decide_eq_true (by first | (with_reducible assumption) | assumption)
                                  obtain ⟨ad365, e365, hx365_0⟩ := Kd.at_int (Kd.R_reads' HO_19.out).2.2 x20_1 p365 q365
                                  obtain rfl : ad361 = ad365 := (by injection e365)
                                  replace p365 := eq_true p365
                                  replace q365 := eq_true q365
                                  go_wp2
                                  go_meet
                                  case rel => exact ⟨_, ((x24_36 != false)), (by first | rfl | (simp; done) | (simp [*]; done)), H', ⟨by have := HK1.out; have := HJ28.out; have := HJ36.out; first | omega | exact Nat.le_refl _⟩, ⟨by (with_reducible repeat (first | apply Kd.R_alloc | apply Kd.R_drewN | apply Kd.R_drew)); exact HO_19.out⟩, ⟨by (with_reducible repeat (first | apply Kd.R_alloc | apply Kd.R_drewN | apply Kd.R_drew)); exact HO_349001.out⟩, ⟨by (with_reducible repeat (first | refine blk_drewN ?_ _ | refine blk_drew ?_ | refine blk_alloc ?_ _)); exact BK348.out⟩, ⟨by repeat (first | (with_reducible first | exact HB.out | apply below_alloc | apply pw_below_drewN | apply below_drew1 | refine below_set ?_ GE348.out) | exact HB.out)⟩⟩
                              · rw [if_neg c45] at H
                                exact absurd H (by simp)
                            · rw [if_neg c44] at H
                              exact absurd H (by simp)
                          · rw [if_neg c43] at H
                            have c43b0 : (t353 == 0) = false := beq_eq_false_iff_ne.mpr c43
                            have c43b1 : (t353 != 0) = true := bne_iff_ne.mpr c43
                            (first | rw [c43b0] | (simp only [i64_w, i32_w]; rw [c43b0]) | skip)
                            have H' := Aside0.mk H
                            clear H
                            go_wp2
                            go_meet
                            case rel => exact ⟨_, ((x24_36 != false)), (by first | rfl | (simp; done) | (simp [*]; done)), H', ⟨by have := HK1.out; have := HJ28.out; have := HJ36.out; first | omega | exact Nat.le_refl _⟩, ⟨by (with_reducible repeat (first | apply Kd.R_alloc | apply Kd.R_drewN | apply Kd.R_drew)); exact HO_19.out⟩, ⟨by (with_reducible repeat (first | apply Kd.R_alloc | apply Kd.R_drewN | apply Kd.R_drew)); exact HO_349001.out⟩, ⟨by (with_reducible repeat (first | refine blk_drewN ?_ _ | refine blk_drew ?_ | refine blk_alloc ?_ _)); exact BK348.out⟩, ⟨by repeat (first | (with_reducible first | exact HB.out | apply below_alloc | apply pw_below_drewN | apply below_drew1 | refine below_set ?_ GE348.out) | exact HB.out)⟩⟩
                        case rest =>
                          clear HC42
                          try clear c1
                          try clear c2
                          try clear p2
                          try clear c3
                          try clear p3
                          try clear q3
                          try clear hx3
                          try clear c4
                          try clear p6
                          try clear c7
                          try clear c8
                          try clear c10
                          try clear c16
                          try clear c19
                          try clear c20
                          try clear c22
                          try clear c28
                          try clear c28b0
                          try clear c31
                          try clear c31b0
                          try clear c32
                          try clear c32b0
                          try clear c33
                          try clear c34
                          try clear c34b0
                          try clear c35
                          try clear c35b0
                          try clear p35
                          try clear q35
                          try clear hx35
                          try clear p36
                          try clear q36
                          try clear hx36
                          try clear c40
                          try clear c40b0
                          try clear c40b1
                          try clear c41
                          try clear c41b0
                          try clear c43
                          try clear c43b0
                          try clear c43b1
                          try clear c44
                          try clear c44b0
                          try clear c45
                          try clear c45b0
                          try clear c46
                          try clear c46b0
                          try clear hcz18_0
                          try clear hcz18_1
                          try clear hcz22_0
                          try clear hcz22_1
                          try clear hfz18_0
                          try clear hfz18_1
                          try clear hfz22_0
                          try clear hfz22_1
                          try clear hx359_0
                          try clear hx360_0
                          try clear hx361_0
                          try clear hx365_0
                          try clear hx366_0
                          try clear p2
                          try clear p3
                          try clear p35
                          try clear p359
                          try clear p36
                          try clear p360
                          try clear p361
                          try clear p365
                          try clear p366
                          try clear p6
                          try clear q3
                          try clear q35
                          try clear q359
                          try clear q36
                          try clear q360
                          try clear q361
                          try clear q365
                          try clear q366
                          obtain ⟨kq, x120_41, rfl, HA, HJ41, HO_19, HO_349001, BK348, HB⟩ := hcut
                          cases kq with
                          | zero => exact absurd HA.out (by simp [dialtonelaw05_ClockInverse.j3])
                          | succ kj41 =>
                            have H := HA.out
                            clear HA
                            simp only [dialtonelaw05_ClockInverse.j3] at H
                            by_cases c47 : x120_41 = true
                            · subst c47
                              have H1 : (none) = some r := by rw [if_pos rfl] at H; exact H
                              clear H
                              have H := H1
                              clear H1
                              exact absurd H (by simp)
                            · replace c47 := Bool.eq_false_iff.mpr c47
                              subst c47
                              have H1 : (dialtonelaw05_ClockInverse.l0 kj41 t350 true t351 t352 t353 y356 (wrap64 (x20_1 + 1)) t344 t345) = some r := by rw [if_neg (show ¬ (false = true) by decide)] at H; exact H
                              clear H
                              have H := H1
                              clear H1
                              have H' := Aside0.mk H
                              clear H
                              go_wp2
                              go_roundg kj41
                              case measure => have := HK1.out; have := HJ28.out; have := HJ36.out; have := HJ41.out; omega
                              case rel => exact ⟨(wrap64 (x20_1 + 1)), (by first | rfl | (simp; done) | (simp [*]; done)), H', ⟨by have := HK1.out; have := HJ28.out; have := HJ36.out; have := HJ41.out; omega⟩, ⟨by (with_reducible repeat (first | apply Kd.R_alloc | apply Kd.R_drewN | apply Kd.R_drew)); exact HO_19.out⟩, ⟨by (with_reducible repeat (first | apply Kd.R_alloc | apply Kd.R_drewN | apply Kd.R_drew)); exact HO_349001.out⟩, ⟨by (with_reducible repeat (first | refine blk_drewN ?_ _ | refine blk_drew ?_ | refine blk_alloc ?_ _)); exact BK348.out⟩, ⟨by repeat (first | (with_reducible first | exact HB.out | apply below_alloc | apply pw_below_drewN | apply below_drew1 | refine below_set ?_ GE348.out) | exact HB.out)⟩⟩
                  · rw [if_neg c35] at H
                    exact absurd H (by simp)
                · rw [if_neg c34] at H
                  exact absurd H (by simp)
        · rw [if_neg c28] at H
          have c28b0 : decide (x20_1 < (y356.length : Int)) = false := decide_eq_false c28
          clear c28
          obtain rfl := Option.some.inj H
          obtain ⟨Ao48, co48, eo48⟩ := Kd.R_slice HO_19.out
          subst eo48
          go_wp2
          go_ret
          exact ⟨by first | rfl | (simp [errW_none, errW_some] <;> rfl) | (simp [*, errW_none, errW_some] <;> rfl), by repeat (first | (with_reducible first | exact HB.out | apply below_alloc | apply pw_below_drewN | apply below_drew1 | refine below_set ?_ GE348.out) | exact HB.out)⟩
  · replace c8 := Bool.eq_false_iff.mpr c8
    subst c8
    have H1 : (none) = some r := by rw [if_neg (show ¬ (false = true) by decide)] at H; exact H
    clear H
    have H := H1
    clear H1
    exact absurd H (by simp)

end Go.Proofs.Ythbonailomfjlaa.C
