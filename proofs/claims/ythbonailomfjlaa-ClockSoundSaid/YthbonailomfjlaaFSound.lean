-- Written for this claim by a program of this session (wip/tools/hprint.py) out of the translation. Lean checks it.
import Derived.Test.YthbonailomfjlaaCKinds
import Derived.Test.YthbonailomfjlaaCValid
import Derived.Test.YthbonailomfjlaaCAt
import Derived.Test.YthbonailomfjlaaCBefore
import Derived.Test.YthbonailomfjlaaCSane
import Derived.Test.YthbonailomfjlaaCShown
import Derived.Test.YthbonailomfjlaaCMade
import Derived.Test.YthbonailomfjlaaHPick
import Derived.Test.YthbonailomfjlaaHReads
namespace Go.Proofs.Ythbonailomfjlaa.C
open Go.RowKit Go.Proofs.YthbonailomfjlaaW.PrintWords Go.Proofs.YthbonailomfjlaaW.PrintLast Go.Proofs.YthbonailomfjlaaW.PrintMore
attribute [local go_sem] max2_int min2_int max_two min_two max_three min_three max_four min_four   -- for this text's walks alone
set_option linter.unusedVariables false
set_option linter.unusedSimpArgs false

/-! ### dialtonelaw05_ClockSound: function 4 -/
mutual
def dialtonelaw05_ClockSound.j0 : Nat → Int → Int → Int → Int → Int → Int → Int → Bool → Int → List (S50) → Option (Bool)
  | 0, _, _, _, _, _, _, _, _, _, _ => none
  | k + 1, x4, x5, x15, x16, x17, x19, x20, x62, x262000, x262001 => if x62 = true then (none) else ((dialtonelaw05_pick.f x5 201).bind fun t271 => ((clock_Before.f k x262000 x262001 x15 x5).bind fun t272 => (if t272 = true then (if x4 ≥ x5 then (dialtonelaw05_ClockSound.j1 k x4 x15 x16 x17 x19 x20 true) else ((clock_After.f k x262000 x262001 x15 x5).bind fun t273 => (if t273 = true then (if x4 ≤ x5 then (dialtonelaw05_ClockSound.j1 k x4 x15 x16 x17 x19 x20 true) else ((clock_Before.f k x262000 x262001 x15 (wrap64 ((wrap64 (x4 + t271)) - 100))).bind fun t274 => (if t274 = true then (if x4 ≥ (wrap64 ((wrap64 (x4 + t271)) - 100)) then (dialtonelaw05_ClockSound.j1 k x4 x15 x16 x17 x19 x20 true) else ((clock_After.f k x262000 x262001 x15 (wrap64 ((wrap64 (x4 + t271)) - 100))).bind fun t275 => (if t275 = true then (dialtonelaw05_ClockSound.j1 k x4 x15 x16 x17 x19 x20 (decide (x4 ≤ (wrap64 ((wrap64 (x4 + t271)) - 100))))) else (dialtonelaw05_ClockSound.j1 k x4 x15 x16 x17 x19 x20 false)))) else ((clock_After.f k x262000 x262001 x15 (wrap64 ((wrap64 (x4 + t271)) - 100))).bind fun t276 => (if t276 = true then (dialtonelaw05_ClockSound.j1 k x4 x15 x16 x17 x19 x20 (decide (x4 ≤ (wrap64 ((wrap64 (x4 + t271)) - 100))))) else (dialtonelaw05_ClockSound.j1 k x4 x15 x16 x17 x19 x20 false)))))) else ((clock_Before.f k x262000 x262001 x15 (wrap64 ((wrap64 (x4 + t271)) - 100))).bind fun t277 => (if t277 = true then (if x4 ≥ (wrap64 ((wrap64 (x4 + t271)) - 100)) then (dialtonelaw05_ClockSound.j1 k x4 x15 x16 x17 x19 x20 true) else ((clock_After.f k x262000 x262001 x15 (wrap64 ((wrap64 (x4 + t271)) - 100))).bind fun t278 => (if t278 = true then (dialtonelaw05_ClockSound.j1 k x4 x15 x16 x17 x19 x20 (decide (x4 ≤ (wrap64 ((wrap64 (x4 + t271)) - 100))))) else (dialtonelaw05_ClockSound.j1 k x4 x15 x16 x17 x19 x20 false)))) else ((clock_After.f k x262000 x262001 x15 (wrap64 ((wrap64 (x4 + t271)) - 100))).bind fun t279 => (if t279 = true then (dialtonelaw05_ClockSound.j1 k x4 x15 x16 x17 x19 x20 (decide (x4 ≤ (wrap64 ((wrap64 (x4 + t271)) - 100))))) else (dialtonelaw05_ClockSound.j1 k x4 x15 x16 x17 x19 x20 false)))))))) else ((clock_After.f k x262000 x262001 x15 x5).bind fun t280 => (if t280 = true then (if x4 ≤ x5 then (dialtonelaw05_ClockSound.j1 k x4 x15 x16 x17 x19 x20 true) else ((clock_Before.f k x262000 x262001 x15 (wrap64 ((wrap64 (x4 + t271)) - 100))).bind fun t281 => (if t281 = true then (if x4 ≥ (wrap64 ((wrap64 (x4 + t271)) - 100)) then (dialtonelaw05_ClockSound.j1 k x4 x15 x16 x17 x19 x20 true) else ((clock_After.f k x262000 x262001 x15 (wrap64 ((wrap64 (x4 + t271)) - 100))).bind fun t282 => (if t282 = true then (dialtonelaw05_ClockSound.j1 k x4 x15 x16 x17 x19 x20 (decide (x4 ≤ (wrap64 ((wrap64 (x4 + t271)) - 100))))) else (dialtonelaw05_ClockSound.j1 k x4 x15 x16 x17 x19 x20 false)))) else ((clock_After.f k x262000 x262001 x15 (wrap64 ((wrap64 (x4 + t271)) - 100))).bind fun t283 => (if t283 = true then (dialtonelaw05_ClockSound.j1 k x4 x15 x16 x17 x19 x20 (decide (x4 ≤ (wrap64 ((wrap64 (x4 + t271)) - 100))))) else (dialtonelaw05_ClockSound.j1 k x4 x15 x16 x17 x19 x20 false)))))) else ((clock_Before.f k x262000 x262001 x15 (wrap64 ((wrap64 (x4 + t271)) - 100))).bind fun t284 => (if t284 = true then (if x4 ≥ (wrap64 ((wrap64 (x4 + t271)) - 100)) then (dialtonelaw05_ClockSound.j1 k x4 x15 x16 x17 x19 x20 true) else ((clock_After.f k x262000 x262001 x15 (wrap64 ((wrap64 (x4 + t271)) - 100))).bind fun t285 => (if t285 = true then (dialtonelaw05_ClockSound.j1 k x4 x15 x16 x17 x19 x20 (decide (x4 ≤ (wrap64 ((wrap64 (x4 + t271)) - 100))))) else (dialtonelaw05_ClockSound.j1 k x4 x15 x16 x17 x19 x20 false)))) else ((clock_After.f k x262000 x262001 x15 (wrap64 ((wrap64 (x4 + t271)) - 100))).bind fun t286 => (if t286 = true then (dialtonelaw05_ClockSound.j1 k x4 x15 x16 x17 x19 x20 (decide (x4 ≤ (wrap64 ((wrap64 (x4 + t271)) - 100))))) else (dialtonelaw05_ClockSound.j1 k x4 x15 x16 x17 x19 x20 false))))))))))
def dialtonelaw05_ClockSound.j1 : Nat → Int → Int → Int → Int → Int → Int → Bool → Option (Bool)
  | 0, _, _, _, _, _, _, _ => none
  | k + 1, x4, x15, x16, x17, x19, x20, x109 => if x109 = true then (none) else (if x16 ≤ x4 then (if x4 ≤ x17 then (if x19 ≤ x15 then (some (decide (x15 ≤ x20))) else (none)) else (none)) else (none))
end
def dialtonelaw05_ClockSound.f (k : Nat) (a0 : Int) (a1 : Int) (l2 : List Int) (l3 : List (S60)) (a4 : Int) (a5 : Int) : Option (Bool) := (dialtonelaw05_sane.f k).bind fun t256 => (if t256 = true then ((dialtoneref05_Made.f k a0 a1 l2 l3).bind fun bt257 => ((dialtonelaw05_pick.f a4 5000).bind fun t262 => ((dialtoneref05_Shown.f k a0 a1 l2 t262).bind fun t263 => ((clock_At.f k bt257.1 bt257.2 t263).bind fun bt264 => ((clock_Reads.f bt257.1 bt257.2 t262).bind fun bt267 => (if bt264.2.2 = 0 then (if bt267.2.2 = 0 then ((clock_Valid.f k bt257.1 bt257.2).bind fun t270 => (dialtonelaw05_ClockSound.j0 k t262 a5 t263 bt264.1 bt264.2.1 bt267.1 bt267.2.1 (!t270) bt257.1 bt257.2)) else (dialtonelaw05_ClockSound.j0 k t262 a5 t263 bt264.1 bt264.2.1 bt267.1 bt267.2.1 true bt257.1 bt257.2)) else (dialtonelaw05_ClockSound.j0 k t262 a5 t263 bt264.1 bt264.2.1 bt267.1 bt267.2.1 true bt257.1 bt257.2))))))) else (none))
theorem dialtonelaw05_ClockSound.mono_l : ∀ k, (∀ y0 y1 y2 y3 y4 y5 y6 y7 y8 y9, LeO (dialtonelaw05_ClockSound.j0 k y0 y1 y2 y3 y4 y5 y6 y7 y8 y9) (dialtonelaw05_ClockSound.j0 (k + 1) y0 y1 y2 y3 y4 y5 y6 y7 y8 y9)) ∧ (∀ y0 y1 y2 y3 y4 y5 y6, LeO (dialtonelaw05_ClockSound.j1 k y0 y1 y2 y3 y4 y5 y6) (dialtonelaw05_ClockSound.j1 (k + 1) y0 y1 y2 y3 y4 y5 y6))
  | 0 => ⟨fun _ _ _ _ _ _ _ _ _ _ r h => by simp [dialtonelaw05_ClockSound.j0] at h, fun _ _ _ _ _ _ _ r h => by simp [dialtonelaw05_ClockSound.j1] at h⟩
  | k + 1 => by
    obtain ⟨ih0, ih1⟩ := dialtonelaw05_ClockSound.mono_l k
    refine ⟨?_, ?_⟩
    · intro y0 y1 y2 y3 y4 y5 y6 y7 y8 y9
      unfold dialtonelaw05_ClockSound.j0
      repeat' first
      | (with_reducible exact ih0 _ _ _ _ _ _ _ _ _ _)
      | (with_reducible exact ih1 _ _ _ _ _ _ _)
      | (with_reducible exact clock_After.mono _ _ _ _ _)
      | (with_reducible exact clock_At.mono _ _ _ _)
      | (with_reducible exact clock_Before.mono _ _ _ _ _)
      | (with_reducible exact clock_Valid.mono _ _ _)
      | (with_reducible exact dialtonelaw05_sane.mono _)
      | (with_reducible exact dialtoneref05_Made.mono _ _ _ _ _)
      | (with_reducible exact dialtoneref05_Shown.mono _ _ _ _ _)
      | (with_reducible exact LeO.refl _)
      | (with_reducible exact LeO.none _)
      | (with_reducible refine LeO.ite ?_ ?_)
      | (with_reducible refine LeO.bind ?_ (fun _ => ?_))
      | exact ih0 _ _ _ _ _ _ _ _ _ _
      | exact ih1 _ _ _ _ _ _ _
      | exact clock_After.mono _ _ _ _ _
      | exact clock_At.mono _ _ _ _
      | exact clock_Before.mono _ _ _ _ _
      | exact clock_Valid.mono _ _ _
      | exact dialtonelaw05_sane.mono _
      | exact dialtoneref05_Made.mono _ _ _ _ _
      | exact dialtoneref05_Shown.mono _ _ _ _ _
      | exact LeO.none _
      | refine LeO.ite ?_ ?_
      | refine LeO.bind ?_ (fun _ => ?_)
    · intro y0 y1 y2 y3 y4 y5 y6
      unfold dialtonelaw05_ClockSound.j1
      repeat' first
      | (with_reducible exact ih0 _ _ _ _ _ _ _ _ _ _)
      | (with_reducible exact ih1 _ _ _ _ _ _ _)
      | (with_reducible exact clock_After.mono _ _ _ _ _)
      | (with_reducible exact clock_At.mono _ _ _ _)
      | (with_reducible exact clock_Before.mono _ _ _ _ _)
      | (with_reducible exact clock_Valid.mono _ _ _)
      | (with_reducible exact dialtonelaw05_sane.mono _)
      | (with_reducible exact dialtoneref05_Made.mono _ _ _ _ _)
      | (with_reducible exact dialtoneref05_Shown.mono _ _ _ _ _)
      | (with_reducible exact LeO.refl _)
      | (with_reducible exact LeO.none _)
      | (with_reducible refine LeO.ite ?_ ?_)
      | (with_reducible refine LeO.bind ?_ (fun _ => ?_))
      | exact ih0 _ _ _ _ _ _ _ _ _ _
      | exact ih1 _ _ _ _ _ _ _
      | exact clock_After.mono _ _ _ _ _
      | exact clock_At.mono _ _ _ _
      | exact clock_Before.mono _ _ _ _ _
      | exact clock_Valid.mono _ _ _
      | exact dialtonelaw05_sane.mono _
      | exact dialtoneref05_Made.mono _ _ _ _ _
      | exact dialtoneref05_Shown.mono _ _ _ _ _
      | exact LeO.none _
      | refine LeO.ite ?_ ?_
      | refine LeO.bind ?_ (fun _ => ?_)
theorem dialtonelaw05_ClockSound.mono : ∀ a0 a1 a2 a3 a4 a5 k, LeO (dialtonelaw05_ClockSound.f k a0 a1 a2 a3 a4 a5) (dialtonelaw05_ClockSound.f (k + 1) a0 a1 a2 a3 a4 a5) := by
  intro a0 a1 a2 a3 a4 a5 k
  obtain ⟨ih0, ih1⟩ := dialtonelaw05_ClockSound.mono_l k
  unfold dialtonelaw05_ClockSound.f
  repeat' first
      | (with_reducible exact ih0 _ _ _ _ _ _ _ _ _ _)
      | (with_reducible exact ih1 _ _ _ _ _ _ _)
      | (with_reducible exact clock_After.mono _ _ _ _ _)
      | (with_reducible exact clock_At.mono _ _ _ _)
      | (with_reducible exact clock_Before.mono _ _ _ _ _)
      | (with_reducible exact clock_Valid.mono _ _ _)
      | (with_reducible exact dialtonelaw05_sane.mono _)
      | (with_reducible exact dialtoneref05_Made.mono _ _ _ _ _)
      | (with_reducible exact dialtoneref05_Shown.mono _ _ _ _ _)
      | (with_reducible exact LeO.refl _)
      | (with_reducible exact LeO.none _)
      | (with_reducible refine LeO.ite ?_ ?_)
      | (with_reducible refine LeO.bind ?_ (fun _ => ?_))
      | exact ih0 _ _ _ _ _ _ _ _ _ _
      | exact ih1 _ _ _ _ _ _ _
      | exact clock_After.mono _ _ _ _ _
      | exact clock_At.mono _ _ _ _
      | exact clock_Before.mono _ _ _ _ _
      | exact clock_Valid.mono _ _ _
      | exact dialtonelaw05_sane.mono _
      | exact dialtoneref05_Made.mono _ _ _ _ _
      | exact dialtoneref05_Shown.mono _ _ _ _ _
      | exact LeO.none _
      | refine LeO.ite ?_ ?_
      | refine LeO.bind ?_ (fun _ => ?_)
set_option maxHeartbeats 8000000 in
set_option maxRecDepth 100000 in
theorem dialtonelaw05_ClockSound.calls (k : Nat) (a0 : Int) (a1 : Int) (A2 : Option Addr) (c2 : Nat) (l2 : List Int) (A3 : Option Addr) (c3 : Nat) (l3 : List (S60)) (a4 : Int) (a5 : Int) (r : Bool) (w : World) (hr2 : Kd.C (Kd.int .i64) w A2 l2.length l2) (hc2 : l2.length ≤ c2) (hr3 : Kd.C k60 w A3 l3.length l3) (hc3 : l3.length ≤ c3) (h : dialtonelaw05_ClockSound.f k a0 a1 l2 l3 a4 a5 = some r) :
    Calls Try.prog 4 #[.int .i64 a0, .int .i64 a1, .slice A2 l2.length c2, .slice A3 l3.length c3, .int .i64 a4, .int .i64 a5] w fun e w' => e = .returned (.bool r) ∧ Below w.heap.size w w' := by
  have hu24 := Try.underlying24
  have HR2 := Aside0.mk hr2
  have HC2 := Aside0.mk hc2
  clear hr2 hc2
  have HR3 := Aside0.mk hr3
  have HC3 := Aside0.mk hc3
  clear hr3 hc3
  have HB := Aside0.mk (Below.refl w.heap.size w)
  have H : ((dialtonelaw05_sane.f k).bind fun t256 => (if t256 = true then ((dialtoneref05_Made.f k a0 a1 l2 l3).bind fun bt257 => ((dialtonelaw05_pick.f a4 5000).bind fun t262 => ((dialtoneref05_Shown.f k a0 a1 l2 t262).bind fun t263 => ((clock_At.f k bt257.1 bt257.2 t263).bind fun bt264 => ((clock_Reads.f bt257.1 bt257.2 t262).bind fun bt267 => (if bt264.2.2 = 0 then (if bt267.2.2 = 0 then ((clock_Valid.f k bt257.1 bt257.2).bind fun t270 => (dialtonelaw05_ClockSound.j0 k t262 a5 t263 bt264.1 bt264.2.1 bt267.1 bt267.2.1 (!t270) bt257.1 bt257.2)) else (dialtonelaw05_ClockSound.j0 k t262 a5 t263 bt264.1 bt264.2.1 bt267.1 bt267.2.1 true bt257.1 bt257.2)) else (dialtonelaw05_ClockSound.j0 k t262 a5 t263 bt264.1 bt264.2.1 bt267.1 bt267.2.1 true bt257.1 bt257.2))))))) else (none))) = some r := h
  clear h
  replace H := Option.bind_eq_some_iff.mp H
  obtain ⟨t256, A70, H⟩ := H
  replace H : (if t256 = true then ((dialtoneref05_Made.f k a0 a1 l2 l3).bind fun bt257 => ((dialtonelaw05_pick.f a4 5000).bind fun t262 => ((dialtoneref05_Shown.f k a0 a1 l2 t262).bind fun t263 => ((clock_At.f k bt257.1 bt257.2 t263).bind fun bt264 => ((clock_Reads.f bt257.1 bt257.2 t262).bind fun bt267 => (if bt264.2.2 = 0 then (if bt267.2.2 = 0 then ((clock_Valid.f k bt257.1 bt257.2).bind fun t270 => (dialtonelaw05_ClockSound.j0 k t262 a5 t263 bt264.1 bt264.2.1 bt267.1 bt267.2.1 (!t270) bt257.1 bt257.2)) else (dialtonelaw05_ClockSound.j0 k t262 a5 t263 bt264.1 bt264.2.1 bt267.1 bt267.2.1 true bt257.1 bt257.2)) else (dialtonelaw05_ClockSound.j0 k t262 a5 t263 bt264.1 bt264.2.1 bt267.1 bt267.2.1 true bt257.1 bt257.2))))))) else (none)) = some r := H
  have A7 := Aside0.mk A70
  clear A70
  by_cases c8 : t256 = true
  · subst c8
    have H1 : ((dialtoneref05_Made.f k a0 a1 l2 l3).bind fun bt257 => ((dialtonelaw05_pick.f a4 5000).bind fun t262 => ((dialtoneref05_Shown.f k a0 a1 l2 t262).bind fun t263 => ((clock_At.f k bt257.1 bt257.2 t263).bind fun bt264 => ((clock_Reads.f bt257.1 bt257.2 t262).bind fun bt267 => (if bt264.2.2 = 0 then (if bt267.2.2 = 0 then ((clock_Valid.f k bt257.1 bt257.2).bind fun t270 => (dialtonelaw05_ClockSound.j0 k t262 a5 t263 bt264.1 bt264.2.1 bt267.1 bt267.2.1 (!t270) bt257.1 bt257.2)) else (dialtonelaw05_ClockSound.j0 k t262 a5 t263 bt264.1 bt264.2.1 bt267.1 bt267.2.1 true bt257.1 bt257.2)) else (dialtonelaw05_ClockSound.j0 k t262 a5 t263 bt264.1 bt264.2.1 bt267.1 bt267.2.1 true bt257.1 bt257.2))))))) = some r := by rw [if_pos rfl] at H; exact H
    clear H
    have H := H1
    clear H1
    replace H := Option.bind_eq_some_iff.mp H
    obtain ⟨⟨t257, t258⟩, A90, H⟩ := H
    replace H : ((dialtonelaw05_pick.f a4 5000).bind fun t262 => ((dialtoneref05_Shown.f k a0 a1 l2 t262).bind fun t263 => ((clock_At.f k t257 t258 t263).bind fun bt264 => ((clock_Reads.f t257 t258 t262).bind fun bt267 => (if bt264.2.2 = 0 then (if bt267.2.2 = 0 then ((clock_Valid.f k t257 t258).bind fun t270 => (dialtonelaw05_ClockSound.j0 k t262 a5 t263 bt264.1 bt264.2.1 bt267.1 bt267.2.1 (!t270) t257 t258)) else (dialtonelaw05_ClockSound.j0 k t262 a5 t263 bt264.1 bt264.2.1 bt267.1 bt267.2.1 true t257 t258)) else (dialtonelaw05_ClockSound.j0 k t262 a5 t263 bt264.1 bt264.2.1 bt267.1 bt267.2.1 true t257 t258)))))) = some r := H
    have A9 := Aside0.mk A90
    clear A90
    replace H := Option.bind_eq_some_iff.mp H
    obtain ⟨t262, A100, H⟩ := H
    replace H : ((dialtoneref05_Shown.f k a0 a1 l2 t262).bind fun t263 => ((clock_At.f k t257 t258 t263).bind fun bt264 => ((clock_Reads.f t257 t258 t262).bind fun bt267 => (if bt264.2.2 = 0 then (if bt267.2.2 = 0 then ((clock_Valid.f k t257 t258).bind fun t270 => (dialtonelaw05_ClockSound.j0 k t262 a5 t263 bt264.1 bt264.2.1 bt267.1 bt267.2.1 (!t270) t257 t258)) else (dialtonelaw05_ClockSound.j0 k t262 a5 t263 bt264.1 bt264.2.1 bt267.1 bt267.2.1 true t257 t258)) else (dialtonelaw05_ClockSound.j0 k t262 a5 t263 bt264.1 bt264.2.1 bt267.1 bt267.2.1 true t257 t258))))) = some r := H
    have A10 := Aside0.mk A100
    clear A100
    replace H := Option.bind_eq_some_iff.mp H
    obtain ⟨t263, A110, H⟩ := H
    replace H : ((clock_At.f k t257 t258 t263).bind fun bt264 => ((clock_Reads.f t257 t258 t262).bind fun bt267 => (if bt264.2.2 = 0 then (if bt267.2.2 = 0 then ((clock_Valid.f k t257 t258).bind fun t270 => (dialtonelaw05_ClockSound.j0 k t262 a5 t263 bt264.1 bt264.2.1 bt267.1 bt267.2.1 (!t270) t257 t258)) else (dialtonelaw05_ClockSound.j0 k t262 a5 t263 bt264.1 bt264.2.1 bt267.1 bt267.2.1 true t257 t258)) else (dialtonelaw05_ClockSound.j0 k t262 a5 t263 bt264.1 bt264.2.1 bt267.1 bt267.2.1 true t257 t258)))) = some r := H
    have A11 := Aside0.mk A110
    clear A110
    replace H := Option.bind_eq_some_iff.mp H
    obtain ⟨⟨t264, t265, t266⟩, A120, H⟩ := H
    replace H : ((clock_Reads.f t257 t258 t262).bind fun bt267 => (if t266 = 0 then (if bt267.2.2 = 0 then ((clock_Valid.f k t257 t258).bind fun t270 => (dialtonelaw05_ClockSound.j0 k t262 a5 t263 t264 t265 bt267.1 bt267.2.1 (!t270) t257 t258)) else (dialtonelaw05_ClockSound.j0 k t262 a5 t263 t264 t265 bt267.1 bt267.2.1 true t257 t258)) else (dialtonelaw05_ClockSound.j0 k t262 a5 t263 t264 t265 bt267.1 bt267.2.1 true t257 t258))) = some r := H
    have A12 := Aside0.mk A120
    clear A120
    replace H := Option.bind_eq_some_iff.mp H
    obtain ⟨⟨t267, t268, t269⟩, A130, H⟩ := H
    replace H : (if t266 = 0 then (if t269 = 0 then ((clock_Valid.f k t257 t258).bind fun t270 => (dialtonelaw05_ClockSound.j0 k t262 a5 t263 t264 t265 t267 t268 (!t270) t257 t258)) else (dialtonelaw05_ClockSound.j0 k t262 a5 t263 t264 t265 t267 t268 true t257 t258)) else (dialtonelaw05_ClockSound.j0 k t262 a5 t263 t264 t265 t267 t268 true t257 t258)) = some r := H
    have A13 := Aside0.mk A130
    clear A130
    have HC14 := Aside0.mk H
    clear H
    go_enter Try.func4, Try.ntmps4
    go_upto_region 9 with (first | ((with_reducible refine gate_callee (f := 10) rfl ?_); refine goesL_ (some 23) rfl rfl Try.func10 (by kernel_rfl) rfl #[] rfl (by (try simp only [List.map_toArray, List.map_cons, List.map_nil]); first | done | rfl | (simp only [List.length_drop, List.length_take]; rfl)) ?_; (with_reducible refine (dialtonelaw05_sane.calls k  true _ A7.out).mono ?_); rintro e w15 ⟨rfl, hb⟩; refine ⟨_, rfl, ?_⟩; have n0_ := Aside0.mk (below_step (by repeat (first | (with_reducible first | exact HB.out | apply below_alloc | apply pw_below_drewN | apply below_drew1) | exact HB.out)) hb); clear HB; have HB := n0_; clear n0_; (try clear hb); (try clear hb2); (try clear hk); (try clear hi)) | ((with_reducible refine gate_callee (f := 16) rfl ?_); refine goesL_ (some 30) rfl rfl Try.func16 (by kernel_rfl) rfl #[.int .i64 a0, .int .i64 a1, .slice A2 l2.length c2, .slice A3 l3.length c3] rfl (by (try simp only [List.map_toArray, List.map_cons, List.map_nil]); first | done | rfl | (simp only [List.length_drop, List.length_take]; rfl)) ?_; (with_reducible refine (dialtoneref05_Made.calls k a0 a1 _ _ l2 _ _ l3 t257 t258 _ ?side1 ?side2 ?side3 ?side4 A9.out).mono ?_); (case side1 => repeat (first | exact (Kd.C_below HR2.out HB.out) | (with_reducible refine Kd.C_alloc ?_ _) | (with_reducible refine Kd.C_drewN ?_ _) | (with_reducible refine Kd.C_drew ?_))); (case side2 => exact HC2.out); (case side3 => repeat (first | exact (Kd.C_below HR3.out HB.out) | (with_reducible refine Kd.C_alloc ?_ _) | (with_reducible refine Kd.C_drewN ?_ _) | (with_reducible refine Kd.C_drew ?_))); (case side4 => exact HC3.out); rintro e w16 ⟨v259, rfl, ho0, hb⟩; refine ⟨_, rfl, ?_⟩; have n0_ := Aside0.mk (Kd.R_lower ho0 (below_size (by repeat (first | (with_reducible first | exact HB.out | apply below_alloc | apply pw_below_drewN | apply below_drew1) | exact HB.out)))); have n1_ := Aside0.mk (below_step (by repeat (first | (with_reducible first | exact HB.out | apply below_alloc | apply pw_below_drewN | apply below_drew1) | exact HB.out)) hb); clear HB; have HO260 := n0_; have HB := n1_; clear n0_ n1_; (try clear hb); (try clear hb2); (try clear hk); (try clear hi); (try clear ho0)) | ((with_reducible refine gate_dst (N := 14) rfl ?_); refine box_event ?hg (N := 14) ?hd (cs := #[.int .i64 0, .slice none 0 0]) (t := 24) ?hr ?_; (case hd => rfl); (case hg => rfl); (case hr => first | (go_simp; done) | (go_simp; rfl)); intro gb261 hg w17 hbox hb; have n0_ := Aside0.mk (Kd.R_below (by (with_reducible repeat (first | apply Kd.R_alloc | apply Kd.R_drewN | apply Kd.R_drew)); exact HO260.out) hb); have n1_ := Aside0.mk (below_step (by repeat (first | (with_reducible first | exact HB.out | apply below_alloc | apply pw_below_drewN | apply below_drew1) | exact HB.out)) hb); have n2_ := Aside0.mk (hbox); have n3_ := Aside0.mk ((by rw [hg]; exact (below_size (by repeat (first | (with_reducible first | exact HB.out | apply below_alloc | apply pw_below_drewN | apply below_drew1) | exact HB.out))) : w.heap.size ≤ gb261)); have n4_ := Aside0.mk ((by rw [hg]; exact (below_size (by repeat (first | (with_reducible first | exact HB.out | apply below_alloc | apply pw_below_drewN | apply below_drew1) | exact HB.out))) : w.heap.size ≤ gb261)); clear HO260; clear HB; have HO260 := n0_; have HB := n1_; have BK261 := n2_; have GW261 := n3_; have GE261 := n4_; clear n0_ n1_ n2_ n3_ n4_; clear hb hbox hg; have hcz18_0 : w17.cell? ⟨gb261, 0, none⟩ = some (.int .i64 0) := (blk_cell BK261.out 0).trans rfl; have hcz18_1 : w17.cell? ⟨gb261, 1, none⟩ = some (.slice none 0 0) := (blk_cell BK261.out 1).trans rfl; have hfz18_0 := blk_frozen BK261.out 0; have hfz18_1 := blk_frozen BK261.out 1; obtain ⟨Ao19, co19, eo19⟩ := Kd.R_slice HO260.out; subst eo19) | ((with_reducible refine gate_callee (f := 19) rfl ?_); refine goesL_ (some 32) rfl rfl Try.func19 (by kernel_rfl) rfl #[.int .i64 a4, .int .i64 5000] rfl (by (try simp only [List.map_toArray, List.map_cons, List.map_nil]); first | done | rfl | (simp only [List.length_drop, List.length_take]; rfl)) ?_; (with_reducible refine (dialtonelaw05_pick.calls a4 5000 t262 _ A10.out).mono ?_); rintro e w20 ⟨rfl, hb⟩; refine ⟨_, rfl, ?_⟩; have n0_ := Aside0.mk (Kd.R_below (by (with_reducible repeat (first | apply Kd.R_alloc | apply Kd.R_drewN | apply Kd.R_drew)); exact (Kd.R_mono (Kd.R_far (p := ⟨gb261, 1, none⟩) (Kd.R_far (p := ⟨gb261, 0, none⟩) (Kd.R_types HO260.out BK261.out (by decide)) (fun _ hk => hk.2) (.int .i64 t257)) (fun _ hk => hk.2) (.slice Ao19 t258.length co19)) (fun _ h_ => h_.1))) hb); have n1_ := Aside0.mk (blk_below (g := gb261) (o := .cells #[.int .i64 t257, .slice Ao19 t258.length co19] 24 (0, 0)) (by (with_reducible repeat (first | refine blk_drewN ?_ _ | refine blk_drew ?_ | refine blk_alloc ?_ _)); refine blk_put (cs := #[.int .i64 t257, .slice none 0 0]) ?_ 1 _ rfl; (with_reducible repeat (first | refine blk_drewN ?_ _ | refine blk_drew ?_ | refine blk_alloc ?_ _)); refine blk_put (cs := #[.int .i64 0, .slice none 0 0]) ?_ 0 _ rfl; (with_reducible repeat (first | refine blk_drewN ?_ _ | refine blk_drew ?_ | refine blk_alloc ?_ _)); exact BK261.out) hb); have n2_ := Aside0.mk (below_step (by repeat (first | (with_reducible first | exact HB.out | apply below_alloc | apply pw_below_drewN | apply below_drew1 | refine below_set ?_ GE261.out) | exact HB.out)) hb); clear HO260; clear BK261; clear HB; have HO260 := n0_; have BK261 := n1_; have HB := n2_; clear n0_ n1_ n2_; (try clear hb); (try clear hb2); (try clear hk); (try clear hi)) | ((with_reducible refine gate_callee (f := 28) rfl ?_); refine goesL_ (some 37) rfl rfl Try.func28 (by kernel_rfl) rfl #[.int .i64 a0, .int .i64 a1, .slice A2 l2.length c2, .int .i64 t262] rfl (by (try simp only [List.map_toArray, List.map_cons, List.map_nil]); first | done | rfl | (simp only [List.length_drop, List.length_take]; rfl)) ?_; (with_reducible refine (dialtoneref05_Shown.calls k a0 a1 _ _ l2 t262 t263 _ ?side1 ?side2 A11.out).mono ?_); (case side1 => repeat (first | exact (Kd.C_below HR2.out HB.out) | (with_reducible refine Kd.C_alloc ?_ _) | (with_reducible refine Kd.C_drewN ?_ _) | (with_reducible refine Kd.C_drew ?_))); (case side2 => exact HC2.out); rintro e w21 ⟨rfl, hb⟩; refine ⟨_, rfl, ?_⟩; have n0_ := Aside0.mk (Kd.R_below (by (with_reducible repeat (first | apply Kd.R_alloc | apply Kd.R_drewN | apply Kd.R_drew)); exact HO260.out) hb); have n1_ := Aside0.mk (blk_below (g := gb261) (o := .cells #[.int .i64 t257, .slice Ao19 t258.length co19] 24 (0, 0)) (by (with_reducible repeat (first | refine blk_drewN ?_ _ | refine blk_drew ?_ | refine blk_alloc ?_ _)); exact BK261.out) hb); have n2_ := Aside0.mk (below_step (by repeat (first | (with_reducible first | exact HB.out | apply below_alloc | apply pw_below_drewN | apply below_drew1 | refine below_set ?_ GE261.out) | exact HB.out)) hb); clear HO260; clear BK261; clear HB; have HO260 := n0_; have BK261 := n1_; have HB := n2_; clear n0_ n1_ n2_; (try clear hb); (try clear hb2); (try clear hk); (try clear hi); have hcz22_0 : w21.cell? ⟨gb261, 0, none⟩ = some (.int .i64 t257) := (blk_cell BK261.out 0).trans rfl; have hcz22_1 : w21.cell? ⟨gb261, 1, none⟩ = some (.slice Ao19 t258.length co19) := (blk_cell BK261.out 1).trans rfl; have hfz22_0 := blk_frozen BK261.out 0; have hfz22_1 := blk_frozen BK261.out 1) | ((with_reducible refine gate_callee (f := 20) rfl ?_); refine goesL_ (some 41) rfl rfl Try.func20 (by kernel_rfl) rfl #[.agg #[.int .i64 t257, .slice Ao19 t258.length co19], .int .i64 t263] rfl (by (try simp only [List.map_toArray, List.map_cons, List.map_nil]); first | done | rfl | (simp only [List.length_drop, List.length_take]; rfl)) ?_; (with_reducible refine (clock_At.calls k t257 _ _ t258 t263 t264 t265 t266 _ ?side1 ?side2 A12.out).mono ?_); (case side1 => repeat (first | exact (Kd.R_reads' HO260.out).2.2 | (with_reducible refine Kd.C_alloc ?_ _) | (with_reducible refine Kd.C_drewN ?_ _) | (with_reducible refine Kd.C_drew ?_))); (case side2 => exact (Kd.R_reads' HO260.out).2.1); rintro e w23 ⟨rfl, hb⟩; refine ⟨_, rfl, ?_⟩; have n0_ := Aside0.mk (Kd.R_below (by (with_reducible repeat (first | apply Kd.R_alloc | apply Kd.R_drewN | apply Kd.R_drew)); exact HO260.out) hb); have n1_ := Aside0.mk (blk_below (g := gb261) (o := .cells #[.int .i64 t257, .slice Ao19 t258.length co19] 24 (0, 0)) (by (with_reducible repeat (first | refine blk_drewN ?_ _ | refine blk_drew ?_ | refine blk_alloc ?_ _)); exact BK261.out) hb); have n2_ := Aside0.mk (below_step (by repeat (first | (with_reducible first | exact HB.out | apply below_alloc | apply pw_below_drewN | apply below_drew1 | refine below_set ?_ GE261.out) | exact HB.out)) hb); clear HO260; clear BK261; clear HB; have HO260 := n0_; have BK261 := n1_; have HB := n2_; clear n0_ n1_ n2_; (try clear hb); (try clear hb2); (try clear hk); (try clear hi); have hcz24_0 : w23.cell? ⟨gb261, 0, none⟩ = some (.int .i64 t257) := (blk_cell BK261.out 0).trans rfl; have hcz24_1 : w23.cell? ⟨gb261, 1, none⟩ = some (.slice Ao19 t258.length co19) := (blk_cell BK261.out 1).trans rfl; have hfz24_0 := blk_frozen BK261.out 0; have hfz24_1 := blk_frozen BK261.out 1) | ((with_reducible refine gate_callee (f := 22) rfl ?_); refine goesL_ (some 48) rfl rfl Try.func22 (by kernel_rfl) rfl #[.agg #[.int .i64 t257, .slice Ao19 t258.length co19], .int .i64 t262] rfl (by (try simp only [List.map_toArray, List.map_cons, List.map_nil]); first | done | rfl | (simp only [List.length_drop, List.length_take]; rfl)) ?_; (with_reducible refine (clock_Reads.calls t257 _ _ t258 t262 t267 t268 t269 _ ?side1 ?side2 A13.out).mono ?_); (case side1 => repeat (first | exact (Kd.R_reads' HO260.out).2.2 | (with_reducible refine Kd.C_alloc ?_ _) | (with_reducible refine Kd.C_drewN ?_ _) | (with_reducible refine Kd.C_drew ?_))); (case side2 => exact (Kd.R_reads' HO260.out).2.1); rintro e w25 ⟨rfl, hb⟩; refine ⟨_, rfl, ?_⟩; have n0_ := Aside0.mk (Kd.R_below (by (with_reducible repeat (first | apply Kd.R_alloc | apply Kd.R_drewN | apply Kd.R_drew)); exact HO260.out) hb); have n1_ := Aside0.mk (blk_below (g := gb261) (o := .cells #[.int .i64 t257, .slice Ao19 t258.length co19] 24 (0, 0)) (by (with_reducible repeat (first | refine blk_drewN ?_ _ | refine blk_drew ?_ | refine blk_alloc ?_ _)); exact BK261.out) hb); have n2_ := Aside0.mk (below_step (by repeat (first | (with_reducible first | exact HB.out | apply below_alloc | apply pw_below_drewN | apply below_drew1 | refine below_set ?_ GE261.out) | exact HB.out)) hb); clear HO260; clear BK261; clear HB; have HO260 := n0_; have BK261 := n1_; have HB := n2_; clear n0_ n1_ n2_; (try clear hb); (try clear hb2); (try clear hk); (try clear hi)))
    (try simp only [Act.put, List.setIfInBounds_toArray, List.set_cons_zero, List.set_cons_succ])
    go_cut [62] (fun v62 wc => ∃ (kq : Nat) (x62_13 : Bool), v62 = .bool x62_13 ∧ Aside0 (dialtonelaw05_ClockSound.j0 kq t262 a5 t263 t264 t265 t267 t268 x62_13 t257 t258 = some r) ∧ Aside0 (kq ≤ k) ∧ Aside0 (Kd.R k50 50 wc w.heap.size (fun _ => True) (.slice Ao19 t258.length co19) t258) ∧ Aside0 (wc.heap[gb261]? = some (.cells #[.int .i64 t257, (.slice Ao19 t258.length co19)] 24 (0, 0))) ∧ Aside0 (Below w.heap.size w wc))
    case first =>
      have H := HC14.out
      clear HC14
      by_cases c26 : t266 = 0
      · rw [if_pos c26] at H
        have c26b0 : (t266 == 0) = true := beq_iff_eq.mpr c26
        have c26b1 : (t266 != 0) = false := bne_eq_false_iff_eq.mpr c26
        clear c26
        (first | rw [c26b0] | (simp only [i64_w, i32_w]; rw [c26b0]) | skip)
        by_cases c27 : t269 = 0
        · rw [if_pos c27] at H
          have c27b0 : (t269 == 0) = true := beq_iff_eq.mpr c27
          have c27b1 : (t269 != 0) = false := bne_eq_false_iff_eq.mpr c27
          clear c27
          replace H := Option.bind_eq_some_iff.mp H
          obtain ⟨t270, A280, H⟩ := H
          replace H : (dialtonelaw05_ClockSound.j0 k t262 a5 t263 t264 t265 t267 t268 (!t270) t257 t258) = some r := H
          have A28 := Aside0.mk A280
          clear A280
          have H' := Aside0.mk H
          clear H
          have hcz29_0 : w25.cell? ⟨gb261, 0, none⟩ = some (.int .i64 t257) := (blk_cell BK261.out 0).trans rfl
          have hcz29_1 : w25.cell? ⟨gb261, 1, none⟩ = some (.slice Ao19 t258.length co19) := (blk_cell BK261.out 1).trans rfl
          have hfz29_0 := blk_frozen BK261.out 0
          have hfz29_1 := blk_frozen BK261.out 1
          go_wp2_with (first | (go_at_call 17; (with_reducible refine (clock_Valid.calls k t257 _ _ t258 t270 _ ?side1 ?side2 A28.out).mono ?_); (case side1 => repeat (first | exact (Kd.R_reads' HO260.out).2.2 | (with_reducible refine Kd.C_alloc ?_ _) | (with_reducible refine Kd.C_drewN ?_ _) | (with_reducible refine Kd.C_drew ?_))); (case side2 => exact (Kd.R_reads' HO260.out).2.1); rintro e w30 ⟨rfl, hb⟩; have n0_ := Aside0.mk (Kd.R_below (by (with_reducible repeat (first | apply Kd.R_alloc | apply Kd.R_drewN | apply Kd.R_drew)); exact HO260.out) hb); have n1_ := Aside0.mk (blk_below (g := gb261) (o := .cells #[.int .i64 t257, .slice Ao19 t258.length co19] 24 (0, 0)) (by (with_reducible repeat (first | refine blk_drewN ?_ _ | refine blk_drew ?_ | refine blk_alloc ?_ _)); exact BK261.out) hb); have n2_ := Aside0.mk (below_step (by repeat (first | (with_reducible first | exact HB.out | apply below_alloc | apply pw_below_drewN | apply below_drew1 | refine below_set ?_ GE261.out) | exact HB.out)) hb); clear HO260; clear BK261; clear HB; have HO260 := n0_; have BK261 := n1_; have HB := n2_; clear n0_ n1_ n2_; (try clear hb); (try clear hb2); (try clear hk); (try clear hi)))
          go_meet
          case rel => exact ⟨_, (!t270), (by first | rfl | (simp; done) | (simp [*]; done)), H', ⟨by first | omega | exact Nat.le_refl _⟩, ⟨by (with_reducible repeat (first | apply Kd.R_alloc | apply Kd.R_drewN | apply Kd.R_drew)); exact HO260.out⟩, ⟨by (with_reducible repeat (first | refine blk_drewN ?_ _ | refine blk_drew ?_ | refine blk_alloc ?_ _)); exact BK261.out⟩, ⟨by repeat (first | (with_reducible first | exact HB.out | apply below_alloc | apply pw_below_drewN | apply below_drew1 | refine below_set ?_ GE261.out) | exact HB.out)⟩⟩
        · rw [if_neg c27] at H
          have c27b0 : (t269 == 0) = false := beq_eq_false_iff_ne.mpr c27
          have c27b1 : (t269 != 0) = true := bne_iff_ne.mpr c27
          have H' := Aside0.mk H
          clear H
          go_wp2
          go_meet
          case rel => exact ⟨_, (true), (by first | rfl | (simp; done) | (simp [*]; done)), H', ⟨by first | omega | exact Nat.le_refl _⟩, ⟨by (with_reducible repeat (first | apply Kd.R_alloc | apply Kd.R_drewN | apply Kd.R_drew)); exact HO260.out⟩, ⟨by (with_reducible repeat (first | refine blk_drewN ?_ _ | refine blk_drew ?_ | refine blk_alloc ?_ _)); exact BK261.out⟩, ⟨by repeat (first | (with_reducible first | exact HB.out | apply below_alloc | apply pw_below_drewN | apply below_drew1 | refine below_set ?_ GE261.out) | exact HB.out)⟩⟩
      · rw [if_neg c26] at H
        have c26b0 : (t266 == 0) = false := beq_eq_false_iff_ne.mpr c26
        have c26b1 : (t266 != 0) = true := bne_iff_ne.mpr c26
        (first | rw [c26b0] | (simp only [i64_w, i32_w]; rw [c26b0]) | skip)
        have H' := Aside0.mk H
        clear H
        go_wp2
        go_meet
        case rel => exact ⟨_, (true), (by first | rfl | (simp; done) | (simp [*]; done)), H', ⟨by first | omega | exact Nat.le_refl _⟩, ⟨by (with_reducible repeat (first | apply Kd.R_alloc | apply Kd.R_drewN | apply Kd.R_drew)); exact HO260.out⟩, ⟨by (with_reducible repeat (first | refine blk_drewN ?_ _ | refine blk_drew ?_ | refine blk_alloc ?_ _)); exact BK261.out⟩, ⟨by repeat (first | (with_reducible first | exact HB.out | apply below_alloc | apply pw_below_drewN | apply below_drew1 | refine below_set ?_ GE261.out) | exact HB.out)⟩⟩
    case rest =>
      clear HC14
      try clear c1
      try clear c2
      try clear p2
      try clear c3
      try clear c4
      try clear c8
      try clear c10
      try clear c16
      try clear c19
      try clear c20
      try clear c22
      try clear c26
      try clear c26b0
      try clear c26b1
      try clear c27
      try clear c27b0
      try clear c27b1
      try clear c28
      try clear hcz18_0
      try clear hcz18_1
      try clear hcz22_0
      try clear hcz22_1
      try clear hcz24_0
      try clear hcz24_1
      try clear hcz29_0
      try clear hcz29_1
      try clear hfz18_0
      try clear hfz18_1
      try clear hfz22_0
      try clear hfz22_1
      try clear hfz24_0
      try clear hfz24_1
      try clear hfz29_0
      try clear hfz29_1
      obtain ⟨kq, x62_13, rfl, HA, HJ13, HO_262001, BK261, HB⟩ := hcut
      cases kq with
      | zero => exact absurd HA.out (by simp [dialtonelaw05_ClockSound.j0])
      | succ kj13 =>
        have H := HA.out
        clear HA
        simp only [dialtonelaw05_ClockSound.j0] at H
        by_cases c31 : x62_13 = true
        · subst c31
          have H1 : (none) = some r := by rw [if_pos rfl] at H; exact H
          clear H
          have H := H1
          clear H1
          exact absurd H (by simp)
        · replace c31 := Bool.eq_false_iff.mpr c31
          subst c31
          have H1 : ((dialtonelaw05_pick.f a5 201).bind fun t271 => ((clock_Before.f kj13 t257 t258 t263 a5).bind fun t272 => (if t272 = true then (if t262 ≥ a5 then (dialtonelaw05_ClockSound.j1 kj13 t262 t263 t264 t265 t267 t268 true) else ((clock_After.f kj13 t257 t258 t263 a5).bind fun t273 => (if t273 = true then (if t262 ≤ a5 then (dialtonelaw05_ClockSound.j1 kj13 t262 t263 t264 t265 t267 t268 true) else ((clock_Before.f kj13 t257 t258 t263 (wrap64 ((wrap64 (t262 + t271)) - 100))).bind fun t274 => (if t274 = true then (if t262 ≥ (wrap64 ((wrap64 (t262 + t271)) - 100)) then (dialtonelaw05_ClockSound.j1 kj13 t262 t263 t264 t265 t267 t268 true) else ((clock_After.f kj13 t257 t258 t263 (wrap64 ((wrap64 (t262 + t271)) - 100))).bind fun t275 => (if t275 = true then (dialtonelaw05_ClockSound.j1 kj13 t262 t263 t264 t265 t267 t268 (decide (t262 ≤ (wrap64 ((wrap64 (t262 + t271)) - 100))))) else (dialtonelaw05_ClockSound.j1 kj13 t262 t263 t264 t265 t267 t268 false)))) else ((clock_After.f kj13 t257 t258 t263 (wrap64 ((wrap64 (t262 + t271)) - 100))).bind fun t276 => (if t276 = true then (dialtonelaw05_ClockSound.j1 kj13 t262 t263 t264 t265 t267 t268 (decide (t262 ≤ (wrap64 ((wrap64 (t262 + t271)) - 100))))) else (dialtonelaw05_ClockSound.j1 kj13 t262 t263 t264 t265 t267 t268 false)))))) else ((clock_Before.f kj13 t257 t258 t263 (wrap64 ((wrap64 (t262 + t271)) - 100))).bind fun t277 => (if t277 = true then (if t262 ≥ (wrap64 ((wrap64 (t262 + t271)) - 100)) then (dialtonelaw05_ClockSound.j1 kj13 t262 t263 t264 t265 t267 t268 true) else ((clock_After.f kj13 t257 t258 t263 (wrap64 ((wrap64 (t262 + t271)) - 100))).bind fun t278 => (if t278 = true then (dialtonelaw05_ClockSound.j1 kj13 t262 t263 t264 t265 t267 t268 (decide (t262 ≤ (wrap64 ((wrap64 (t262 + t271)) - 100))))) else (dialtonelaw05_ClockSound.j1 kj13 t262 t263 t264 t265 t267 t268 false)))) else ((clock_After.f kj13 t257 t258 t263 (wrap64 ((wrap64 (t262 + t271)) - 100))).bind fun t279 => (if t279 = true then (dialtonelaw05_ClockSound.j1 kj13 t262 t263 t264 t265 t267 t268 (decide (t262 ≤ (wrap64 ((wrap64 (t262 + t271)) - 100))))) else (dialtonelaw05_ClockSound.j1 kj13 t262 t263 t264 t265 t267 t268 false)))))))) else ((clock_After.f kj13 t257 t258 t263 a5).bind fun t280 => (if t280 = true then (if t262 ≤ a5 then (dialtonelaw05_ClockSound.j1 kj13 t262 t263 t264 t265 t267 t268 true) else ((clock_Before.f kj13 t257 t258 t263 (wrap64 ((wrap64 (t262 + t271)) - 100))).bind fun t281 => (if t281 = true then (if t262 ≥ (wrap64 ((wrap64 (t262 + t271)) - 100)) then (dialtonelaw05_ClockSound.j1 kj13 t262 t263 t264 t265 t267 t268 true) else ((clock_After.f kj13 t257 t258 t263 (wrap64 ((wrap64 (t262 + t271)) - 100))).bind fun t282 => (if t282 = true then (dialtonelaw05_ClockSound.j1 kj13 t262 t263 t264 t265 t267 t268 (decide (t262 ≤ (wrap64 ((wrap64 (t262 + t271)) - 100))))) else (dialtonelaw05_ClockSound.j1 kj13 t262 t263 t264 t265 t267 t268 false)))) else ((clock_After.f kj13 t257 t258 t263 (wrap64 ((wrap64 (t262 + t271)) - 100))).bind fun t283 => (if t283 = true then (dialtonelaw05_ClockSound.j1 kj13 t262 t263 t264 t265 t267 t268 (decide (t262 ≤ (wrap64 ((wrap64 (t262 + t271)) - 100))))) else (dialtonelaw05_ClockSound.j1 kj13 t262 t263 t264 t265 t267 t268 false)))))) else ((clock_Before.f kj13 t257 t258 t263 (wrap64 ((wrap64 (t262 + t271)) - 100))).bind fun t284 => (if t284 = true then (if t262 ≥ (wrap64 ((wrap64 (t262 + t271)) - 100)) then (dialtonelaw05_ClockSound.j1 kj13 t262 t263 t264 t265 t267 t268 true) else ((clock_After.f kj13 t257 t258 t263 (wrap64 ((wrap64 (t262 + t271)) - 100))).bind fun t285 => (if t285 = true then (dialtonelaw05_ClockSound.j1 kj13 t262 t263 t264 t265 t267 t268 (decide (t262 ≤ (wrap64 ((wrap64 (t262 + t271)) - 100))))) else (dialtonelaw05_ClockSound.j1 kj13 t262 t263 t264 t265 t267 t268 false)))) else ((clock_After.f kj13 t257 t258 t263 (wrap64 ((wrap64 (t262 + t271)) - 100))).bind fun t286 => (if t286 = true then (dialtonelaw05_ClockSound.j1 kj13 t262 t263 t264 t265 t267 t268 (decide (t262 ≤ (wrap64 ((wrap64 (t262 + t271)) - 100))))) else (dialtonelaw05_ClockSound.j1 kj13 t262 t263 t264 t265 t267 t268 false)))))))))) = some r := by rw [if_neg (show ¬ (false = true) by decide)] at H; exact H
          clear H
          have H := H1
          clear H1
          replace H := Option.bind_eq_some_iff.mp H
          obtain ⟨t271, A320, H⟩ := H
          replace H : ((clock_Before.f kj13 t257 t258 t263 a5).bind fun t272 => (if t272 = true then (if t262 ≥ a5 then (dialtonelaw05_ClockSound.j1 kj13 t262 t263 t264 t265 t267 t268 true) else ((clock_After.f kj13 t257 t258 t263 a5).bind fun t273 => (if t273 = true then (if t262 ≤ a5 then (dialtonelaw05_ClockSound.j1 kj13 t262 t263 t264 t265 t267 t268 true) else ((clock_Before.f kj13 t257 t258 t263 (wrap64 ((wrap64 (t262 + t271)) - 100))).bind fun t274 => (if t274 = true then (if t262 ≥ (wrap64 ((wrap64 (t262 + t271)) - 100)) then (dialtonelaw05_ClockSound.j1 kj13 t262 t263 t264 t265 t267 t268 true) else ((clock_After.f kj13 t257 t258 t263 (wrap64 ((wrap64 (t262 + t271)) - 100))).bind fun t275 => (if t275 = true then (dialtonelaw05_ClockSound.j1 kj13 t262 t263 t264 t265 t267 t268 (decide (t262 ≤ (wrap64 ((wrap64 (t262 + t271)) - 100))))) else (dialtonelaw05_ClockSound.j1 kj13 t262 t263 t264 t265 t267 t268 false)))) else ((clock_After.f kj13 t257 t258 t263 (wrap64 ((wrap64 (t262 + t271)) - 100))).bind fun t276 => (if t276 = true then (dialtonelaw05_ClockSound.j1 kj13 t262 t263 t264 t265 t267 t268 (decide (t262 ≤ (wrap64 ((wrap64 (t262 + t271)) - 100))))) else (dialtonelaw05_ClockSound.j1 kj13 t262 t263 t264 t265 t267 t268 false)))))) else ((clock_Before.f kj13 t257 t258 t263 (wrap64 ((wrap64 (t262 + t271)) - 100))).bind fun t277 => (if t277 = true then (if t262 ≥ (wrap64 ((wrap64 (t262 + t271)) - 100)) then (dialtonelaw05_ClockSound.j1 kj13 t262 t263 t264 t265 t267 t268 true) else ((clock_After.f kj13 t257 t258 t263 (wrap64 ((wrap64 (t262 + t271)) - 100))).bind fun t278 => (if t278 = true then (dialtonelaw05_ClockSound.j1 kj13 t262 t263 t264 t265 t267 t268 (decide (t262 ≤ (wrap64 ((wrap64 (t262 + t271)) - 100))))) else (dialtonelaw05_ClockSound.j1 kj13 t262 t263 t264 t265 t267 t268 false)))) else ((clock_After.f kj13 t257 t258 t263 (wrap64 ((wrap64 (t262 + t271)) - 100))).bind fun t279 => (if t279 = true then (dialtonelaw05_ClockSound.j1 kj13 t262 t263 t264 t265 t267 t268 (decide (t262 ≤ (wrap64 ((wrap64 (t262 + t271)) - 100))))) else (dialtonelaw05_ClockSound.j1 kj13 t262 t263 t264 t265 t267 t268 false)))))))) else ((clock_After.f kj13 t257 t258 t263 a5).bind fun t280 => (if t280 = true then (if t262 ≤ a5 then (dialtonelaw05_ClockSound.j1 kj13 t262 t263 t264 t265 t267 t268 true) else ((clock_Before.f kj13 t257 t258 t263 (wrap64 ((wrap64 (t262 + t271)) - 100))).bind fun t281 => (if t281 = true then (if t262 ≥ (wrap64 ((wrap64 (t262 + t271)) - 100)) then (dialtonelaw05_ClockSound.j1 kj13 t262 t263 t264 t265 t267 t268 true) else ((clock_After.f kj13 t257 t258 t263 (wrap64 ((wrap64 (t262 + t271)) - 100))).bind fun t282 => (if t282 = true then (dialtonelaw05_ClockSound.j1 kj13 t262 t263 t264 t265 t267 t268 (decide (t262 ≤ (wrap64 ((wrap64 (t262 + t271)) - 100))))) else (dialtonelaw05_ClockSound.j1 kj13 t262 t263 t264 t265 t267 t268 false)))) else ((clock_After.f kj13 t257 t258 t263 (wrap64 ((wrap64 (t262 + t271)) - 100))).bind fun t283 => (if t283 = true then (dialtonelaw05_ClockSound.j1 kj13 t262 t263 t264 t265 t267 t268 (decide (t262 ≤ (wrap64 ((wrap64 (t262 + t271)) - 100))))) else (dialtonelaw05_ClockSound.j1 kj13 t262 t263 t264 t265 t267 t268 false)))))) else ((clock_Before.f kj13 t257 t258 t263 (wrap64 ((wrap64 (t262 + t271)) - 100))).bind fun t284 => (if t284 = true then (if t262 ≥ (wrap64 ((wrap64 (t262 + t271)) - 100)) then (dialtonelaw05_ClockSound.j1 kj13 t262 t263 t264 t265 t267 t268 true) else ((clock_After.f kj13 t257 t258 t263 (wrap64 ((wrap64 (t262 + t271)) - 100))).bind fun t285 => (if t285 = true then (dialtonelaw05_ClockSound.j1 kj13 t262 t263 t264 t265 t267 t268 (decide (t262 ≤ (wrap64 ((wrap64 (t262 + t271)) - 100))))) else (dialtonelaw05_ClockSound.j1 kj13 t262 t263 t264 t265 t267 t268 false)))) else ((clock_After.f kj13 t257 t258 t263 (wrap64 ((wrap64 (t262 + t271)) - 100))).bind fun t286 => (if t286 = true then (dialtonelaw05_ClockSound.j1 kj13 t262 t263 t264 t265 t267 t268 (decide (t262 ≤ (wrap64 ((wrap64 (t262 + t271)) - 100))))) else (dialtonelaw05_ClockSound.j1 kj13 t262 t263 t264 t265 t267 t268 false))))))))) = some r := H
          have A32 := Aside0.mk A320
          clear A320
          have HC33 := Aside0.mk H
          clear H
          go_upto_region 12 with (first | ((with_reducible refine gate_callee (f := 19) rfl ?_); refine goesL_ (some 65) rfl rfl Try.func19 (by kernel_rfl) rfl #[.int .i64 a5, .int .i64 201] rfl (by (try simp only [List.map_toArray, List.map_cons, List.map_nil]); first | done | rfl | (simp only [List.length_drop, List.length_take]; rfl)) ?_; (with_reducible refine (dialtonelaw05_pick.calls a5 201 t271 _ A32.out).mono ?_); rintro e w34 ⟨rfl, hb⟩; refine ⟨_, rfl, ?_⟩; have n0_ := Aside0.mk (Kd.R_below (by (with_reducible repeat (first | apply Kd.R_alloc | apply Kd.R_drewN | apply Kd.R_drew)); exact HO_262001.out) hb); have n1_ := Aside0.mk (blk_below (g := gb261) (o := .cells #[.int .i64 t257, .slice Ao19 t258.length co19] 24 (0, 0)) (by (with_reducible repeat (first | refine blk_drewN ?_ _ | refine blk_drew ?_ | refine blk_alloc ?_ _)); exact BK261.out) hb); have n2_ := Aside0.mk (below_step (by repeat (first | (with_reducible first | exact HB.out | apply below_alloc | apply pw_below_drewN | apply below_drew1 | refine below_set ?_ GE261.out) | exact HB.out)) hb); clear HO_262001; clear BK261; clear HB; have HO_262001 := n0_; have BK261 := n1_; have HB := n2_; clear n0_ n1_ n2_; (try clear hb); (try clear hb2); (try clear hk); (try clear hi)))
          (try simp only [Act.put, List.setIfInBounds_toArray, List.set_cons_zero, List.set_cons_succ])
          go_cut [109] (fun v109 wc => ∃ (kq : Nat) (x109_32 : Bool), v109 = .bool x109_32 ∧ Aside0 (dialtonelaw05_ClockSound.j1 kq t262 t263 t264 t265 t267 t268 x109_32 = some r) ∧ Aside0 (kq ≤ kj13) ∧ Aside0 (Kd.R k50 50 wc w.heap.size (fun _ => True) (.slice Ao19 t258.length co19) t258) ∧ Aside0 (wc.heap[gb261]? = some (.cells #[.int .i64 t257, (.slice Ao19 t258.length co19)] 24 (0, 0))) ∧ Aside0 (Below w.heap.size w wc))
          case first =>
            have H := HC33.out
            clear HC33
            replace H := Option.bind_eq_some_iff.mp H
            obtain ⟨t272, A350, H⟩ := H
            replace H : (if t272 = true then (if t262 ≥ a5 then (dialtonelaw05_ClockSound.j1 kj13 t262 t263 t264 t265 t267 t268 true) else ((clock_After.f kj13 t257 t258 t263 a5).bind fun t273 => (if t273 = true then (if t262 ≤ a5 then (dialtonelaw05_ClockSound.j1 kj13 t262 t263 t264 t265 t267 t268 true) else ((clock_Before.f kj13 t257 t258 t263 (wrap64 ((wrap64 (t262 + t271)) - 100))).bind fun t274 => (if t274 = true then (if t262 ≥ (wrap64 ((wrap64 (t262 + t271)) - 100)) then (dialtonelaw05_ClockSound.j1 kj13 t262 t263 t264 t265 t267 t268 true) else ((clock_After.f kj13 t257 t258 t263 (wrap64 ((wrap64 (t262 + t271)) - 100))).bind fun t275 => (if t275 = true then (dialtonelaw05_ClockSound.j1 kj13 t262 t263 t264 t265 t267 t268 (decide (t262 ≤ (wrap64 ((wrap64 (t262 + t271)) - 100))))) else (dialtonelaw05_ClockSound.j1 kj13 t262 t263 t264 t265 t267 t268 false)))) else ((clock_After.f kj13 t257 t258 t263 (wrap64 ((wrap64 (t262 + t271)) - 100))).bind fun t276 => (if t276 = true then (dialtonelaw05_ClockSound.j1 kj13 t262 t263 t264 t265 t267 t268 (decide (t262 ≤ (wrap64 ((wrap64 (t262 + t271)) - 100))))) else (dialtonelaw05_ClockSound.j1 kj13 t262 t263 t264 t265 t267 t268 false)))))) else ((clock_Before.f kj13 t257 t258 t263 (wrap64 ((wrap64 (t262 + t271)) - 100))).bind fun t277 => (if t277 = true then (if t262 ≥ (wrap64 ((wrap64 (t262 + t271)) - 100)) then (dialtonelaw05_ClockSound.j1 kj13 t262 t263 t264 t265 t267 t268 true) else ((clock_After.f kj13 t257 t258 t263 (wrap64 ((wrap64 (t262 + t271)) - 100))).bind fun t278 => (if t278 = true then (dialtonelaw05_ClockSound.j1 kj13 t262 t263 t264 t265 t267 t268 (decide (t262 ≤ (wrap64 ((wrap64 (t262 + t271)) - 100))))) else (dialtonelaw05_ClockSound.j1 kj13 t262 t263 t264 t265 t267 t268 false)))) else ((clock_After.f kj13 t257 t258 t263 (wrap64 ((wrap64 (t262 + t271)) - 100))).bind fun t279 => (if t279 = true then (dialtonelaw05_ClockSound.j1 kj13 t262 t263 t264 t265 t267 t268 (decide (t262 ≤ (wrap64 ((wrap64 (t262 + t271)) - 100))))) else (dialtonelaw05_ClockSound.j1 kj13 t262 t263 t264 t265 t267 t268 false)))))))) else ((clock_After.f kj13 t257 t258 t263 a5).bind fun t280 => (if t280 = true then (if t262 ≤ a5 then (dialtonelaw05_ClockSound.j1 kj13 t262 t263 t264 t265 t267 t268 true) else ((clock_Before.f kj13 t257 t258 t263 (wrap64 ((wrap64 (t262 + t271)) - 100))).bind fun t281 => (if t281 = true then (if t262 ≥ (wrap64 ((wrap64 (t262 + t271)) - 100)) then (dialtonelaw05_ClockSound.j1 kj13 t262 t263 t264 t265 t267 t268 true) else ((clock_After.f kj13 t257 t258 t263 (wrap64 ((wrap64 (t262 + t271)) - 100))).bind fun t282 => (if t282 = true then (dialtonelaw05_ClockSound.j1 kj13 t262 t263 t264 t265 t267 t268 (decide (t262 ≤ (wrap64 ((wrap64 (t262 + t271)) - 100))))) else (dialtonelaw05_ClockSound.j1 kj13 t262 t263 t264 t265 t267 t268 false)))) else ((clock_After.f kj13 t257 t258 t263 (wrap64 ((wrap64 (t262 + t271)) - 100))).bind fun t283 => (if t283 = true then (dialtonelaw05_ClockSound.j1 kj13 t262 t263 t264 t265 t267 t268 (decide (t262 ≤ (wrap64 ((wrap64 (t262 + t271)) - 100))))) else (dialtonelaw05_ClockSound.j1 kj13 t262 t263 t264 t265 t267 t268 false)))))) else ((clock_Before.f kj13 t257 t258 t263 (wrap64 ((wrap64 (t262 + t271)) - 100))).bind fun t284 => (if t284 = true then (if t262 ≥ (wrap64 ((wrap64 (t262 + t271)) - 100)) then (dialtonelaw05_ClockSound.j1 kj13 t262 t263 t264 t265 t267 t268 true) else ((clock_After.f kj13 t257 t258 t263 (wrap64 ((wrap64 (t262 + t271)) - 100))).bind fun t285 => (if t285 = true then (dialtonelaw05_ClockSound.j1 kj13 t262 t263 t264 t265 t267 t268 (decide (t262 ≤ (wrap64 ((wrap64 (t262 + t271)) - 100))))) else (dialtonelaw05_ClockSound.j1 kj13 t262 t263 t264 t265 t267 t268 false)))) else ((clock_After.f kj13 t257 t258 t263 (wrap64 ((wrap64 (t262 + t271)) - 100))).bind fun t286 => (if t286 = true then (dialtonelaw05_ClockSound.j1 kj13 t262 t263 t264 t265 t267 t268 (decide (t262 ≤ (wrap64 ((wrap64 (t262 + t271)) - 100))))) else (dialtonelaw05_ClockSound.j1 kj13 t262 t263 t264 t265 t267 t268 false)))))))) = some r := H
            have A35 := Aside0.mk A350
            clear A350
            by_cases c36 : t272 = true
            · subst c36
              have H1 : (if t262 ≥ a5 then (dialtonelaw05_ClockSound.j1 kj13 t262 t263 t264 t265 t267 t268 true) else ((clock_After.f kj13 t257 t258 t263 a5).bind fun t273 => (if t273 = true then (if t262 ≤ a5 then (dialtonelaw05_ClockSound.j1 kj13 t262 t263 t264 t265 t267 t268 true) else ((clock_Before.f kj13 t257 t258 t263 (wrap64 ((wrap64 (t262 + t271)) - 100))).bind fun t274 => (if t274 = true then (if t262 ≥ (wrap64 ((wrap64 (t262 + t271)) - 100)) then (dialtonelaw05_ClockSound.j1 kj13 t262 t263 t264 t265 t267 t268 true) else ((clock_After.f kj13 t257 t258 t263 (wrap64 ((wrap64 (t262 + t271)) - 100))).bind fun t275 => (if t275 = true then (dialtonelaw05_ClockSound.j1 kj13 t262 t263 t264 t265 t267 t268 (decide (t262 ≤ (wrap64 ((wrap64 (t262 + t271)) - 100))))) else (dialtonelaw05_ClockSound.j1 kj13 t262 t263 t264 t265 t267 t268 false)))) else ((clock_After.f kj13 t257 t258 t263 (wrap64 ((wrap64 (t262 + t271)) - 100))).bind fun t276 => (if t276 = true then (dialtonelaw05_ClockSound.j1 kj13 t262 t263 t264 t265 t267 t268 (decide (t262 ≤ (wrap64 ((wrap64 (t262 + t271)) - 100))))) else (dialtonelaw05_ClockSound.j1 kj13 t262 t263 t264 t265 t267 t268 false)))))) else ((clock_Before.f kj13 t257 t258 t263 (wrap64 ((wrap64 (t262 + t271)) - 100))).bind fun t277 => (if t277 = true then (if t262 ≥ (wrap64 ((wrap64 (t262 + t271)) - 100)) then (dialtonelaw05_ClockSound.j1 kj13 t262 t263 t264 t265 t267 t268 true) else ((clock_After.f kj13 t257 t258 t263 (wrap64 ((wrap64 (t262 + t271)) - 100))).bind fun t278 => (if t278 = true then (dialtonelaw05_ClockSound.j1 kj13 t262 t263 t264 t265 t267 t268 (decide (t262 ≤ (wrap64 ((wrap64 (t262 + t271)) - 100))))) else (dialtonelaw05_ClockSound.j1 kj13 t262 t263 t264 t265 t267 t268 false)))) else ((clock_After.f kj13 t257 t258 t263 (wrap64 ((wrap64 (t262 + t271)) - 100))).bind fun t279 => (if t279 = true then (dialtonelaw05_ClockSound.j1 kj13 t262 t263 t264 t265 t267 t268 (decide (t262 ≤ (wrap64 ((wrap64 (t262 + t271)) - 100))))) else (dialtonelaw05_ClockSound.j1 kj13 t262 t263 t264 t265 t267 t268 false)))))))) = some r := by rw [if_pos rfl] at H; exact H
              clear H
              have H := H1
              clear H1
              by_cases c37 : t262 ≥ a5
              · rw [if_pos c37] at H
                have c37b0 : decide (a5 ≤ t262) = true := decide_eq_true c37
                clear c37
                (first | rw [c37b0] | (simp only [i64_w, i32_w]; rw [c37b0]) | skip)
                have H' := Aside0.mk H
                clear H
                have hcz38_0 : w34.cell? ⟨gb261, 0, none⟩ = some (.int .i64 t257) := (blk_cell BK261.out 0).trans rfl
                have hcz38_1 : w34.cell? ⟨gb261, 1, none⟩ = some (.slice Ao19 t258.length co19) := (blk_cell BK261.out 1).trans rfl
                have hfz38_0 := blk_frozen BK261.out 0
                have hfz38_1 := blk_frozen BK261.out 1
                go_wp2_with (first | ((with_reducible refine gate_callee (f := 24) rfl ?_); refine goesL_ (some 71) rfl rfl Try.func24 (by kernel_rfl) rfl #[.agg #[.int .i64 t257, .slice Ao19 t258.length co19], .int .i64 t263, .int .i64 a5] rfl (by (try simp only [List.map_toArray, List.map_cons, List.map_nil]); first | done | rfl | (simp only [List.length_drop, List.length_take]; rfl)) ?_; (with_reducible refine (clock_Before.calls kj13 t257 _ _ t258 t263 a5 true _ ?side1 ?side2 A35.out).mono ?_); (case side1 => repeat (first | exact (Kd.R_reads' HO_262001.out).2.2 | (with_reducible refine Kd.C_alloc ?_ _) | (with_reducible refine Kd.C_drewN ?_ _) | (with_reducible refine Kd.C_drew ?_))); (case side2 => exact (Kd.R_reads' HO_262001.out).2.1); rintro e w39 ⟨rfl, hb⟩; refine ⟨_, rfl, ?_⟩; have n0_ := Aside0.mk (Kd.R_below (by (with_reducible repeat (first | apply Kd.R_alloc | apply Kd.R_drewN | apply Kd.R_drew)); exact HO_262001.out) hb); have n1_ := Aside0.mk (blk_below (g := gb261) (o := .cells #[.int .i64 t257, .slice Ao19 t258.length co19] 24 (0, 0)) (by (with_reducible repeat (first | refine blk_drewN ?_ _ | refine blk_drew ?_ | refine blk_alloc ?_ _)); exact BK261.out) hb); have n2_ := Aside0.mk (below_step (by repeat (first | (with_reducible first | exact HB.out | apply below_alloc | apply pw_below_drewN | apply below_drew1 | refine below_set ?_ GE261.out) | exact HB.out)) hb); clear HO_262001; clear BK261; clear HB; have HO_262001 := n0_; have BK261 := n1_; have HB := n2_; clear n0_ n1_ n2_; (try clear hb); (try clear hb2); (try clear hk); (try clear hi)))
                go_meet
                case rel => exact ⟨_, (true), (by first | rfl | (simp; done) | (simp [*]; done)), H', ⟨by have := HJ13.out; first | omega | exact Nat.le_refl _⟩, ⟨by (with_reducible repeat (first | apply Kd.R_alloc | apply Kd.R_drewN | apply Kd.R_drew)); exact HO_262001.out⟩, ⟨by (with_reducible repeat (first | refine blk_drewN ?_ _ | refine blk_drew ?_ | refine blk_alloc ?_ _)); exact BK261.out⟩, ⟨by repeat (first | (with_reducible first | exact HB.out | apply below_alloc | apply pw_below_drewN | apply below_drew1 | refine below_set ?_ GE261.out) | exact HB.out)⟩⟩
              · rw [if_neg c37] at H
                have c37b0 : decide (a5 ≤ t262) = false := decide_eq_false c37
                clear c37
                (first | rw [c37b0] | (simp only [i64_w, i32_w]; rw [c37b0]) | skip)
                replace H := Option.bind_eq_some_iff.mp H
                obtain ⟨t273, A400, H⟩ := H
                replace H : (if t273 = true then (if t262 ≤ a5 then (dialtonelaw05_ClockSound.j1 kj13 t262 t263 t264 t265 t267 t268 true) else ((clock_Before.f kj13 t257 t258 t263 (wrap64 ((wrap64 (t262 + t271)) - 100))).bind fun t274 => (if t274 = true then (if t262 ≥ (wrap64 ((wrap64 (t262 + t271)) - 100)) then (dialtonelaw05_ClockSound.j1 kj13 t262 t263 t264 t265 t267 t268 true) else ((clock_After.f kj13 t257 t258 t263 (wrap64 ((wrap64 (t262 + t271)) - 100))).bind fun t275 => (if t275 = true then (dialtonelaw05_ClockSound.j1 kj13 t262 t263 t264 t265 t267 t268 (decide (t262 ≤ (wrap64 ((wrap64 (t262 + t271)) - 100))))) else (dialtonelaw05_ClockSound.j1 kj13 t262 t263 t264 t265 t267 t268 false)))) else ((clock_After.f kj13 t257 t258 t263 (wrap64 ((wrap64 (t262 + t271)) - 100))).bind fun t276 => (if t276 = true then (dialtonelaw05_ClockSound.j1 kj13 t262 t263 t264 t265 t267 t268 (decide (t262 ≤ (wrap64 ((wrap64 (t262 + t271)) - 100))))) else (dialtonelaw05_ClockSound.j1 kj13 t262 t263 t264 t265 t267 t268 false)))))) else ((clock_Before.f kj13 t257 t258 t263 (wrap64 ((wrap64 (t262 + t271)) - 100))).bind fun t277 => (if t277 = true then (if t262 ≥ (wrap64 ((wrap64 (t262 + t271)) - 100)) then (dialtonelaw05_ClockSound.j1 kj13 t262 t263 t264 t265 t267 t268 true) else ((clock_After.f kj13 t257 t258 t263 (wrap64 ((wrap64 (t262 + t271)) - 100))).bind fun t278 => (if t278 = true then (dialtonelaw05_ClockSound.j1 kj13 t262 t263 t264 t265 t267 t268 (decide (t262 ≤ (wrap64 ((wrap64 (t262 + t271)) - 100))))) else (dialtonelaw05_ClockSound.j1 kj13 t262 t263 t264 t265 t267 t268 false)))) else ((clock_After.f kj13 t257 t258 t263 (wrap64 ((wrap64 (t262 + t271)) - 100))).bind fun t279 => (if t279 = true then (dialtonelaw05_ClockSound.j1 kj13 t262 t263 t264 t265 t267 t268 (decide (t262 ≤ (wrap64 ((wrap64 (t262 + t271)) - 100))))) else (dialtonelaw05_ClockSound.j1 kj13 t262 t263 t264 t265 t267 t268 false)))))) = some r := H
                have A40 := Aside0.mk A400
                clear A400
                by_cases c41 : t273 = true
                · subst c41
                  have H1 : (if t262 ≤ a5 then (dialtonelaw05_ClockSound.j1 kj13 t262 t263 t264 t265 t267 t268 true) else ((clock_Before.f kj13 t257 t258 t263 (wrap64 ((wrap64 (t262 + t271)) - 100))).bind fun t274 => (if t274 = true then (if t262 ≥ (wrap64 ((wrap64 (t262 + t271)) - 100)) then (dialtonelaw05_ClockSound.j1 kj13 t262 t263 t264 t265 t267 t268 true) else ((clock_After.f kj13 t257 t258 t263 (wrap64 ((wrap64 (t262 + t271)) - 100))).bind fun t275 => (if t275 = true then (dialtonelaw05_ClockSound.j1 kj13 t262 t263 t264 t265 t267 t268 (decide (t262 ≤ (wrap64 ((wrap64 (t262 + t271)) - 100))))) else (dialtonelaw05_ClockSound.j1 kj13 t262 t263 t264 t265 t267 t268 false)))) else ((clock_After.f kj13 t257 t258 t263 (wrap64 ((wrap64 (t262 + t271)) - 100))).bind fun t276 => (if t276 = true then (dialtonelaw05_ClockSound.j1 kj13 t262 t263 t264 t265 t267 t268 (decide (t262 ≤ (wrap64 ((wrap64 (t262 + t271)) - 100))))) else (dialtonelaw05_ClockSound.j1 kj13 t262 t263 t264 t265 t267 t268 false)))))) = some r := by rw [if_pos rfl] at H; exact H
                  clear H
                  have H := H1
                  clear H1
                  by_cases c42 : t262 ≤ a5
                  · rw [if_pos c42] at H
                    have c42b0 : decide (t262 ≤ a5) = true := decide_eq_true c42
                    clear c42
                    have H' := Aside0.mk H
                    clear H
                    have hcz43_0 : w34.cell? ⟨gb261, 0, none⟩ = some (.int .i64 t257) := (blk_cell BK261.out 0).trans rfl
                    have hcz43_1 : w34.cell? ⟨gb261, 1, none⟩ = some (.slice Ao19 t258.length co19) := (blk_cell BK261.out 1).trans rfl
                    have hfz43_0 := blk_frozen BK261.out 0
                    have hfz43_1 := blk_frozen BK261.out 1
                    go_wp2_with (first | ((with_reducible refine gate_callee (f := 24) rfl ?_); refine goesL_ (some 71) rfl rfl Try.func24 (by kernel_rfl) rfl #[.agg #[.int .i64 t257, .slice Ao19 t258.length co19], .int .i64 t263, .int .i64 a5] rfl (by (try simp only [List.map_toArray, List.map_cons, List.map_nil]); first | done | rfl | (simp only [List.length_drop, List.length_take]; rfl)) ?_; (with_reducible refine (clock_Before.calls kj13 t257 _ _ t258 t263 a5 true _ ?side1 ?side2 A35.out).mono ?_); (case side1 => repeat (first | exact (Kd.R_reads' HO_262001.out).2.2 | (with_reducible refine Kd.C_alloc ?_ _) | (with_reducible refine Kd.C_drewN ?_ _) | (with_reducible refine Kd.C_drew ?_))); (case side2 => exact (Kd.R_reads' HO_262001.out).2.1); rintro e w44 ⟨rfl, hb⟩; refine ⟨_, rfl, ?_⟩; have n0_ := Aside0.mk (Kd.R_below (by (with_reducible repeat (first | apply Kd.R_alloc | apply Kd.R_drewN | apply Kd.R_drew)); exact HO_262001.out) hb); have n1_ := Aside0.mk (blk_below (g := gb261) (o := .cells #[.int .i64 t257, .slice Ao19 t258.length co19] 24 (0, 0)) (by (with_reducible repeat (first | refine blk_drewN ?_ _ | refine blk_drew ?_ | refine blk_alloc ?_ _)); exact BK261.out) hb); have n2_ := Aside0.mk (below_step (by repeat (first | (with_reducible first | exact HB.out | apply below_alloc | apply pw_below_drewN | apply below_drew1 | refine below_set ?_ GE261.out) | exact HB.out)) hb); clear HO_262001; clear BK261; clear HB; have HO_262001 := n0_; have BK261 := n1_; have HB := n2_; clear n0_ n1_ n2_; (try clear hb); (try clear hb2); (try clear hk); (try clear hi); have hcz45_0 : w44.cell? ⟨gb261, 0, none⟩ = some (.int .i64 t257) := (blk_cell BK261.out 0).trans rfl; have hcz45_1 : w44.cell? ⟨gb261, 1, none⟩ = some (.slice Ao19 t258.length co19) := (blk_cell BK261.out 1).trans rfl; have hfz45_0 := blk_frozen BK261.out 0; have hfz45_1 := blk_frozen BK261.out 1) | (go_at_call 26; (with_reducible refine (clock_After.calls kj13 t257 _ _ t258 t263 a5 true _ ?side1 ?side2 A40.out).mono ?_); (case side1 => repeat (first | exact (Kd.R_reads' HO_262001.out).2.2 | (with_reducible refine Kd.C_alloc ?_ _) | (with_reducible refine Kd.C_drewN ?_ _) | (with_reducible refine Kd.C_drew ?_))); (case side2 => exact (Kd.R_reads' HO_262001.out).2.1); rintro e w46 ⟨rfl, hb⟩; have n0_ := Aside0.mk (Kd.R_below (by (with_reducible repeat (first | apply Kd.R_alloc | apply Kd.R_drewN | apply Kd.R_drew)); exact HO_262001.out) hb); have n1_ := Aside0.mk (blk_below (g := gb261) (o := .cells #[.int .i64 t257, .slice Ao19 t258.length co19] 24 (0, 0)) (by (with_reducible repeat (first | refine blk_drewN ?_ _ | refine blk_drew ?_ | refine blk_alloc ?_ _)); exact BK261.out) hb); have n2_ := Aside0.mk (below_step (by repeat (first | (with_reducible first | exact HB.out | apply below_alloc | apply pw_below_drewN | apply below_drew1 | refine below_set ?_ GE261.out) | exact HB.out)) hb); clear HO_262001; clear BK261; clear HB; have HO_262001 := n0_; have BK261 := n1_; have HB := n2_; clear n0_ n1_ n2_; (try clear hb); (try clear hb2); (try clear hk); (try clear hi)))
                    go_meet
                    case rel => exact ⟨_, (true), (by first | rfl | (simp; done) | (simp [*]; done)), H', ⟨by have := HJ13.out; first | omega | exact Nat.le_refl _⟩, ⟨by (with_reducible repeat (first | apply Kd.R_alloc | apply Kd.R_drewN | apply Kd.R_drew)); exact HO_262001.out⟩, ⟨by (with_reducible repeat (first | refine blk_drewN ?_ _ | refine blk_drew ?_ | refine blk_alloc ?_ _)); exact BK261.out⟩, ⟨by repeat (first | (with_reducible first | exact HB.out | apply below_alloc | apply pw_below_drewN | apply below_drew1 | refine below_set ?_ GE261.out) | exact HB.out)⟩⟩
                  · rw [if_neg c42] at H
                    have c42b0 : decide (t262 ≤ a5) = false := decide_eq_false c42
                    clear c42
                    replace H := Option.bind_eq_some_iff.mp H
                    obtain ⟨t274, A470, H⟩ := H
                    replace H : (if t274 = true then (if t262 ≥ (wrap64 ((wrap64 (t262 + t271)) - 100)) then (dialtonelaw05_ClockSound.j1 kj13 t262 t263 t264 t265 t267 t268 true) else ((clock_After.f kj13 t257 t258 t263 (wrap64 ((wrap64 (t262 + t271)) - 100))).bind fun t275 => (if t275 = true then (dialtonelaw05_ClockSound.j1 kj13 t262 t263 t264 t265 t267 t268 (decide (t262 ≤ (wrap64 ((wrap64 (t262 + t271)) - 100))))) else (dialtonelaw05_ClockSound.j1 kj13 t262 t263 t264 t265 t267 t268 false)))) else ((clock_After.f kj13 t257 t258 t263 (wrap64 ((wrap64 (t262 + t271)) - 100))).bind fun t276 => (if t276 = true then (dialtonelaw05_ClockSound.j1 kj13 t262 t263 t264 t265 t267 t268 (decide (t262 ≤ (wrap64 ((wrap64 (t262 + t271)) - 100))))) else (dialtonelaw05_ClockSound.j1 kj13 t262 t263 t264 t265 t267 t268 false)))) = some r := H
                    have A47 := Aside0.mk A470
                    clear A470
                    by_cases c48 : t274 = true
                    · subst c48
                      have H1 : (if t262 ≥ (wrap64 ((wrap64 (t262 + t271)) - 100)) then (dialtonelaw05_ClockSound.j1 kj13 t262 t263 t264 t265 t267 t268 true) else ((clock_After.f kj13 t257 t258 t263 (wrap64 ((wrap64 (t262 + t271)) - 100))).bind fun t275 => (if t275 = true then (dialtonelaw05_ClockSound.j1 kj13 t262 t263 t264 t265 t267 t268 (decide (t262 ≤ (wrap64 ((wrap64 (t262 + t271)) - 100))))) else (dialtonelaw05_ClockSound.j1 kj13 t262 t263 t264 t265 t267 t268 false)))) = some r := by rw [if_pos rfl] at H; exact H
                      clear H
                      have H := H1
                      clear H1
                      by_cases c49 : t262 ≥ (wrap64 ((wrap64 (t262 + t271)) - 100))
                      · rw [if_pos c49] at H
                        have c49b0 : decide ((wrap64 ((wrap64 (t262 + t271)) - 100)) ≤ t262) = true := decide_eq_true c49
                        clear c49
                        have H' := Aside0.mk H
                        clear H
                        have hcz50_0 : w34.cell? ⟨gb261, 0, none⟩ = some (.int .i64 t257) := (blk_cell BK261.out 0).trans rfl
                        have hcz50_1 : w34.cell? ⟨gb261, 1, none⟩ = some (.slice Ao19 t258.length co19) := (blk_cell BK261.out 1).trans rfl
                        have hfz50_0 := blk_frozen BK261.out 0
                        have hfz50_1 := blk_frozen BK261.out 1
                        go_wp2_with (first | ((with_reducible refine gate_callee (f := 24) rfl ?_); refine goesL_ (some 71) rfl rfl Try.func24 (by kernel_rfl) rfl #[.agg #[.int .i64 t257, .slice Ao19 t258.length co19], .int .i64 t263, .int .i64 a5] rfl (by (try simp only [List.map_toArray, List.map_cons, List.map_nil]); first | done | rfl | (simp only [List.length_drop, List.length_take]; rfl)) ?_; (with_reducible refine (clock_Before.calls kj13 t257 _ _ t258 t263 a5 true _ ?side1 ?side2 A35.out).mono ?_); (case side1 => repeat (first | exact (Kd.R_reads' HO_262001.out).2.2 | (with_reducible refine Kd.C_alloc ?_ _) | (with_reducible refine Kd.C_drewN ?_ _) | (with_reducible refine Kd.C_drew ?_))); (case side2 => exact (Kd.R_reads' HO_262001.out).2.1); rintro e w51 ⟨rfl, hb⟩; refine ⟨_, rfl, ?_⟩; have n0_ := Aside0.mk (Kd.R_below (by (with_reducible repeat (first | apply Kd.R_alloc | apply Kd.R_drewN | apply Kd.R_drew)); exact HO_262001.out) hb); have n1_ := Aside0.mk (blk_below (g := gb261) (o := .cells #[.int .i64 t257, .slice Ao19 t258.length co19] 24 (0, 0)) (by (with_reducible repeat (first | refine blk_drewN ?_ _ | refine blk_drew ?_ | refine blk_alloc ?_ _)); exact BK261.out) hb); have n2_ := Aside0.mk (below_step (by repeat (first | (with_reducible first | exact HB.out | apply below_alloc | apply pw_below_drewN | apply below_drew1 | refine below_set ?_ GE261.out) | exact HB.out)) hb); clear HO_262001; clear BK261; clear HB; have HO_262001 := n0_; have BK261 := n1_; have HB := n2_; clear n0_ n1_ n2_; (try clear hb); (try clear hb2); (try clear hk); (try clear hi); have hcz52_0 : w51.cell? ⟨gb261, 0, none⟩ = some (.int .i64 t257) := (blk_cell BK261.out 0).trans rfl; have hcz52_1 : w51.cell? ⟨gb261, 1, none⟩ = some (.slice Ao19 t258.length co19) := (blk_cell BK261.out 1).trans rfl; have hfz52_0 := blk_frozen BK261.out 0; have hfz52_1 := blk_frozen BK261.out 1) | (go_at_call 26; (with_reducible refine (clock_After.calls kj13 t257 _ _ t258 t263 a5 true _ ?side1 ?side2 A40.out).mono ?_); (case side1 => repeat (first | exact (Kd.R_reads' HO_262001.out).2.2 | (with_reducible refine Kd.C_alloc ?_ _) | (with_reducible refine Kd.C_drewN ?_ _) | (with_reducible refine Kd.C_drew ?_))); (case side2 => exact (Kd.R_reads' HO_262001.out).2.1); rintro e w53 ⟨rfl, hb⟩; have n0_ := Aside0.mk (Kd.R_below (by (with_reducible repeat (first | apply Kd.R_alloc | apply Kd.R_drewN | apply Kd.R_drew)); exact HO_262001.out) hb); have n1_ := Aside0.mk (blk_below (g := gb261) (o := .cells #[.int .i64 t257, .slice Ao19 t258.length co19] 24 (0, 0)) (by (with_reducible repeat (first | refine blk_drewN ?_ _ | refine blk_drew ?_ | refine blk_alloc ?_ _)); exact BK261.out) hb); have n2_ := Aside0.mk (below_step (by repeat (first | (with_reducible first | exact HB.out | apply below_alloc | apply pw_below_drewN | apply below_drew1 | refine below_set ?_ GE261.out) | exact HB.out)) hb); clear HO_262001; clear BK261; clear HB; have HO_262001 := n0_; have BK261 := n1_; have HB := n2_; clear n0_ n1_ n2_; (try clear hb); (try clear hb2); (try clear hk); (try clear hi); have hcz54_0 : w53.cell? ⟨gb261, 0, none⟩ = some (.int .i64 t257) := (blk_cell BK261.out 0).trans rfl; have hcz54_1 : w53.cell? ⟨gb261, 1, none⟩ = some (.slice Ao19 t258.length co19) := (blk_cell BK261.out 1).trans rfl; have hfz54_0 := blk_frozen BK261.out 0; have hfz54_1 := blk_frozen BK261.out 1) | (go_at_call 24; (with_reducible refine (clock_Before.calls kj13 t257 _ _ t258 t263 (wrap64 ((wrap64 (t262 + t271)) - 100)) true _ ?side1 ?side2 A47.out).mono ?_); (case side1 => repeat (first | exact (Kd.R_reads' HO_262001.out).2.2 | (with_reducible refine Kd.C_alloc ?_ _) | (with_reducible refine Kd.C_drewN ?_ _) | (with_reducible refine Kd.C_drew ?_))); (case side2 => exact (Kd.R_reads' HO_262001.out).2.1); rintro e w55 ⟨rfl, hb⟩; have n0_ := Aside0.mk (Kd.R_below (by (with_reducible repeat (first | apply Kd.R_alloc | apply Kd.R_drewN | apply Kd.R_drew)); exact HO_262001.out) hb); have n1_ := Aside0.mk (blk_below (g := gb261) (o := .cells #[.int .i64 t257, .slice Ao19 t258.length co19] 24 (0, 0)) (by (with_reducible repeat (first | refine blk_drewN ?_ _ | refine blk_drew ?_ | refine blk_alloc ?_ _)); exact BK261.out) hb); have n2_ := Aside0.mk (below_step (by repeat (first | (with_reducible first | exact HB.out | apply below_alloc | apply pw_below_drewN | apply below_drew1 | refine below_set ?_ GE261.out) | exact HB.out)) hb); clear HO_262001; clear BK261; clear HB; have HO_262001 := n0_; have BK261 := n1_; have HB := n2_; clear n0_ n1_ n2_; (try clear hb); (try clear hb2); (try clear hk); (try clear hi)))
                        go_meet
                        case rel => exact ⟨_, (true), (by first | rfl | (simp; done) | (simp [*]; done)), H', ⟨by have := HJ13.out; first | omega | exact Nat.le_refl _⟩, ⟨by (with_reducible repeat (first | apply Kd.R_alloc | apply Kd.R_drewN | apply Kd.R_drew)); exact HO_262001.out⟩, ⟨by (with_reducible repeat (first | refine blk_drewN ?_ _ | refine blk_drew ?_ | refine blk_alloc ?_ _)); exact BK261.out⟩, ⟨by repeat (first | (with_reducible first | exact HB.out | apply below_alloc | apply pw_below_drewN | apply below_drew1 | refine below_set ?_ GE261.out) | exact HB.out)⟩⟩
                      · rw [if_neg c49] at H
                        have c49b0 : decide ((wrap64 ((wrap64 (t262 + t271)) - 100)) ≤ t262) = false := decide_eq_false c49
                        clear c49
                        replace H := Option.bind_eq_some_iff.mp H
                        obtain ⟨t275, A560, H⟩ := H
                        replace H : (if t275 = true then (dialtonelaw05_ClockSound.j1 kj13 t262 t263 t264 t265 t267 t268 (decide (t262 ≤ (wrap64 ((wrap64 (t262 + t271)) - 100))))) else (dialtonelaw05_ClockSound.j1 kj13 t262 t263 t264 t265 t267 t268 false)) = some r := H
                        have A56 := Aside0.mk A560
                        clear A560
                        by_cases c57 : t275 = true
                        · subst c57
                          have H1 : (dialtonelaw05_ClockSound.j1 kj13 t262 t263 t264 t265 t267 t268 (decide (t262 ≤ (wrap64 ((wrap64 (t262 + t271)) - 100))))) = some r := by rw [if_pos rfl] at H; exact H
                          clear H
                          have H := H1
                          clear H1
                          have H' := Aside0.mk H
                          clear H
                          have hcz58_0 : w34.cell? ⟨gb261, 0, none⟩ = some (.int .i64 t257) := (blk_cell BK261.out 0).trans rfl
                          have hcz58_1 : w34.cell? ⟨gb261, 1, none⟩ = some (.slice Ao19 t258.length co19) := (blk_cell BK261.out 1).trans rfl
                          have hfz58_0 := blk_frozen BK261.out 0
                          have hfz58_1 := blk_frozen BK261.out 1
                          go_wp2_with (first | ((with_reducible refine gate_callee (f := 24) rfl ?_); refine goesL_ (some 71) rfl rfl Try.func24 (by kernel_rfl) rfl #[.agg #[.int .i64 t257, .slice Ao19 t258.length co19], .int .i64 t263, .int .i64 a5] rfl (by (try simp only [List.map_toArray, List.map_cons, List.map_nil]); first | done | rfl | (simp only [List.length_drop, List.length_take]; rfl)) ?_; (with_reducible refine (clock_Before.calls kj13 t257 _ _ t258 t263 a5 true _ ?side1 ?side2 A35.out).mono ?_); (case side1 => repeat (first | exact (Kd.R_reads' HO_262001.out).2.2 | (with_reducible refine Kd.C_alloc ?_ _) | (with_reducible refine Kd.C_drewN ?_ _) | (with_reducible refine Kd.C_drew ?_))); (case side2 => exact (Kd.R_reads' HO_262001.out).2.1); rintro e w59 ⟨rfl, hb⟩; refine ⟨_, rfl, ?_⟩; have n0_ := Aside0.mk (Kd.R_below (by (with_reducible repeat (first | apply Kd.R_alloc | apply Kd.R_drewN | apply Kd.R_drew)); exact HO_262001.out) hb); have n1_ := Aside0.mk (blk_below (g := gb261) (o := .cells #[.int .i64 t257, .slice Ao19 t258.length co19] 24 (0, 0)) (by (with_reducible repeat (first | refine blk_drewN ?_ _ | refine blk_drew ?_ | refine blk_alloc ?_ _)); exact BK261.out) hb); have n2_ := Aside0.mk (below_step (by repeat (first | (with_reducible first | exact HB.out | apply below_alloc | apply pw_below_drewN | apply below_drew1 | refine below_set ?_ GE261.out) | exact HB.out)) hb); clear HO_262001; clear BK261; clear HB; have HO_262001 := n0_; have BK261 := n1_; have HB := n2_; clear n0_ n1_ n2_; (try clear hb); (try clear hb2); (try clear hk); (try clear hi); have hcz60_0 : w59.cell? ⟨gb261, 0, none⟩ = some (.int .i64 t257) := (blk_cell BK261.out 0).trans rfl; have hcz60_1 : w59.cell? ⟨gb261, 1, none⟩ = some (.slice Ao19 t258.length co19) := (blk_cell BK261.out 1).trans rfl; have hfz60_0 := blk_frozen BK261.out 0; have hfz60_1 := blk_frozen BK261.out 1) | (go_at_call 26; (with_reducible refine (clock_After.calls kj13 t257 _ _ t258 t263 a5 true _ ?side1 ?side2 A40.out).mono ?_); (case side1 => repeat (first | exact (Kd.R_reads' HO_262001.out).2.2 | (with_reducible refine Kd.C_alloc ?_ _) | (with_reducible refine Kd.C_drewN ?_ _) | (with_reducible refine Kd.C_drew ?_))); (case side2 => exact (Kd.R_reads' HO_262001.out).2.1); rintro e w61 ⟨rfl, hb⟩; have n0_ := Aside0.mk (Kd.R_below (by (with_reducible repeat (first | apply Kd.R_alloc | apply Kd.R_drewN | apply Kd.R_drew)); exact HO_262001.out) hb); have n1_ := Aside0.mk (blk_below (g := gb261) (o := .cells #[.int .i64 t257, .slice Ao19 t258.length co19] 24 (0, 0)) (by (with_reducible repeat (first | refine blk_drewN ?_ _ | refine blk_drew ?_ | refine blk_alloc ?_ _)); exact BK261.out) hb); have n2_ := Aside0.mk (below_step (by repeat (first | (with_reducible first | exact HB.out | apply below_alloc | apply pw_below_drewN | apply below_drew1 | refine below_set ?_ GE261.out) | exact HB.out)) hb); clear HO_262001; clear BK261; clear HB; have HO_262001 := n0_; have BK261 := n1_; have HB := n2_; clear n0_ n1_ n2_; (try clear hb); (try clear hb2); (try clear hk); (try clear hi); have hcz62_0 : w61.cell? ⟨gb261, 0, none⟩ = some (.int .i64 t257) := (blk_cell BK261.out 0).trans rfl; have hcz62_1 : w61.cell? ⟨gb261, 1, none⟩ = some (.slice Ao19 t258.length co19) := (blk_cell BK261.out 1).trans rfl; have hfz62_0 := blk_frozen BK261.out 0; have hfz62_1 := blk_frozen BK261.out 1) | (go_at_call 24; (with_reducible refine (clock_Before.calls kj13 t257 _ _ t258 t263 (wrap64 ((wrap64 (t262 + t271)) - 100)) true _ ?side1 ?side2 A47.out).mono ?_); (case side1 => repeat (first | exact (Kd.R_reads' HO_262001.out).2.2 | (with_reducible refine Kd.C_alloc ?_ _) | (with_reducible refine Kd.C_drewN ?_ _) | (with_reducible refine Kd.C_drew ?_))); (case side2 => exact (Kd.R_reads' HO_262001.out).2.1); rintro e w63 ⟨rfl, hb⟩; have n0_ := Aside0.mk (Kd.R_below (by (with_reducible repeat (first | apply Kd.R_alloc | apply Kd.R_drewN | apply Kd.R_drew)); exact HO_262001.out) hb); have n1_ := Aside0.mk (blk_below (g := gb261) (o := .cells #[.int .i64 t257, .slice Ao19 t258.length co19] 24 (0, 0)) (by (with_reducible repeat (first | refine blk_drewN ?_ _ | refine blk_drew ?_ | refine blk_alloc ?_ _)); exact BK261.out) hb); have n2_ := Aside0.mk (below_step (by repeat (first | (with_reducible first | exact HB.out | apply below_alloc | apply pw_below_drewN | apply below_drew1 | refine below_set ?_ GE261.out) | exact HB.out)) hb); clear HO_262001; clear BK261; clear HB; have HO_262001 := n0_; have BK261 := n1_; have HB := n2_; clear n0_ n1_ n2_; (try clear hb); (try clear hb2); (try clear hk); (try clear hi); have hcz64_0 : w63.cell? ⟨gb261, 0, none⟩ = some (.int .i64 t257) := (blk_cell BK261.out 0).trans rfl; have hcz64_1 : w63.cell? ⟨gb261, 1, none⟩ = some (.slice Ao19 t258.length co19) := (blk_cell BK261.out 1).trans rfl; have hfz64_0 := blk_frozen BK261.out 0; have hfz64_1 := blk_frozen BK261.out 1) | (go_at_call 26; (with_reducible refine (clock_After.calls kj13 t257 _ _ t258 t263 (wrap64 ((wrap64 (t262 + t271)) - 100)) true _ ?side1 ?side2 A56.out).mono ?_); (case side1 => repeat (first | exact (Kd.R_reads' HO_262001.out).2.2 | (with_reducible refine Kd.C_alloc ?_ _) | (with_reducible refine Kd.C_drewN ?_ _) | (with_reducible refine Kd.C_drew ?_))); (case side2 => exact (Kd.R_reads' HO_262001.out).2.1); rintro e w65 ⟨rfl, hb⟩; have n0_ := Aside0.mk (Kd.R_below (by (with_reducible repeat (first | apply Kd.R_alloc | apply Kd.R_drewN | apply Kd.R_drew)); exact HO_262001.out) hb); have n1_ := Aside0.mk (blk_below (g := gb261) (o := .cells #[.int .i64 t257, .slice Ao19 t258.length co19] 24 (0, 0)) (by (with_reducible repeat (first | refine blk_drewN ?_ _ | refine blk_drew ?_ | refine blk_alloc ?_ _)); exact BK261.out) hb); have n2_ := Aside0.mk (below_step (by repeat (first | (with_reducible first | exact HB.out | apply below_alloc | apply pw_below_drewN | apply below_drew1 | refine below_set ?_ GE261.out) | exact HB.out)) hb); clear HO_262001; clear BK261; clear HB; have HO_262001 := n0_; have BK261 := n1_; have HB := n2_; clear n0_ n1_ n2_; (try clear hb); (try clear hb2); (try clear hk); (try clear hi)))
                          go_meet
                          case rel => exact ⟨_, (decide (t262 ≤ (wrap64 ((wrap64 (t262 + t271)) - 100)))), (by first | rfl | (simp; done) | (simp [*]; done)), H', ⟨by have := HJ13.out; first | omega | exact Nat.le_refl _⟩, ⟨by (with_reducible repeat (first | apply Kd.R_alloc | apply Kd.R_drewN | apply Kd.R_drew)); exact HO_262001.out⟩, ⟨by (with_reducible repeat (first | refine blk_drewN ?_ _ | refine blk_drew ?_ | refine blk_alloc ?_ _)); exact BK261.out⟩, ⟨by repeat (first | (with_reducible first | exact HB.out | apply below_alloc | apply pw_below_drewN | apply below_drew1 | refine below_set ?_ GE261.out) | exact HB.out)⟩⟩
                        · replace c57 := Bool.eq_false_iff.mpr c57
                          subst c57
                          have H1 : (dialtonelaw05_ClockSound.j1 kj13 t262 t263 t264 t265 t267 t268 false) = some r := by rw [if_neg (show ¬ (false = true) by decide)] at H; exact H
                          clear H
                          have H := H1
                          clear H1
                          have H' := Aside0.mk H
                          clear H
                          have hcz66_0 : w34.cell? ⟨gb261, 0, none⟩ = some (.int .i64 t257) := (blk_cell BK261.out 0).trans rfl
                          have hcz66_1 : w34.cell? ⟨gb261, 1, none⟩ = some (.slice Ao19 t258.length co19) := (blk_cell BK261.out 1).trans rfl
                          have hfz66_0 := blk_frozen BK261.out 0
                          have hfz66_1 := blk_frozen BK261.out 1
                          go_wp2_with (first | ((with_reducible refine gate_callee (f := 24) rfl ?_); refine goesL_ (some 71) rfl rfl Try.func24 (by kernel_rfl) rfl #[.agg #[.int .i64 t257, .slice Ao19 t258.length co19], .int .i64 t263, .int .i64 a5] rfl (by (try simp only [List.map_toArray, List.map_cons, List.map_nil]); first | done | rfl | (simp only [List.length_drop, List.length_take]; rfl)) ?_; (with_reducible refine (clock_Before.calls kj13 t257 _ _ t258 t263 a5 true _ ?side1 ?side2 A35.out).mono ?_); (case side1 => repeat (first | exact (Kd.R_reads' HO_262001.out).2.2 | (with_reducible refine Kd.C_alloc ?_ _) | (with_reducible refine Kd.C_drewN ?_ _) | (with_reducible refine Kd.C_drew ?_))); (case side2 => exact (Kd.R_reads' HO_262001.out).2.1); rintro e w67 ⟨rfl, hb⟩; refine ⟨_, rfl, ?_⟩; have n0_ := Aside0.mk (Kd.R_below (by (with_reducible repeat (first | apply Kd.R_alloc | apply Kd.R_drewN | apply Kd.R_drew)); exact HO_262001.out) hb); have n1_ := Aside0.mk (blk_below (g := gb261) (o := .cells #[.int .i64 t257, .slice Ao19 t258.length co19] 24 (0, 0)) (by (with_reducible repeat (first | refine blk_drewN ?_ _ | refine blk_drew ?_ | refine blk_alloc ?_ _)); exact BK261.out) hb); have n2_ := Aside0.mk (below_step (by repeat (first | (with_reducible first | exact HB.out | apply below_alloc | apply pw_below_drewN | apply below_drew1 | refine below_set ?_ GE261.out) | exact HB.out)) hb); clear HO_262001; clear BK261; clear HB; have HO_262001 := n0_; have BK261 := n1_; have HB := n2_; clear n0_ n1_ n2_; (try clear hb); (try clear hb2); (try clear hk); (try clear hi); have hcz68_0 : w67.cell? ⟨gb261, 0, none⟩ = some (.int .i64 t257) := (blk_cell BK261.out 0).trans rfl; have hcz68_1 : w67.cell? ⟨gb261, 1, none⟩ = some (.slice Ao19 t258.length co19) := (blk_cell BK261.out 1).trans rfl; have hfz68_0 := blk_frozen BK261.out 0; have hfz68_1 := blk_frozen BK261.out 1) | (go_at_call 26; (with_reducible refine (clock_After.calls kj13 t257 _ _ t258 t263 a5 true _ ?side1 ?side2 A40.out).mono ?_); (case side1 => repeat (first | exact (Kd.R_reads' HO_262001.out).2.2 | (with_reducible refine Kd.C_alloc ?_ _) | (with_reducible refine Kd.C_drewN ?_ _) | (with_reducible refine Kd.C_drew ?_))); (case side2 => exact (Kd.R_reads' HO_262001.out).2.1); rintro e w69 ⟨rfl, hb⟩; have n0_ := Aside0.mk (Kd.R_below (by (with_reducible repeat (first | apply Kd.R_alloc | apply Kd.R_drewN | apply Kd.R_drew)); exact HO_262001.out) hb); have n1_ := Aside0.mk (blk_below (g := gb261) (o := .cells #[.int .i64 t257, .slice Ao19 t258.length co19] 24 (0, 0)) (by (with_reducible repeat (first | refine blk_drewN ?_ _ | refine blk_drew ?_ | refine blk_alloc ?_ _)); exact BK261.out) hb); have n2_ := Aside0.mk (below_step (by repeat (first | (with_reducible first | exact HB.out | apply below_alloc | apply pw_below_drewN | apply below_drew1 | refine below_set ?_ GE261.out) | exact HB.out)) hb); clear HO_262001; clear BK261; clear HB; have HO_262001 := n0_; have BK261 := n1_; have HB := n2_; clear n0_ n1_ n2_; (try clear hb); (try clear hb2); (try clear hk); (try clear hi); have hcz70_0 : w69.cell? ⟨gb261, 0, none⟩ = some (.int .i64 t257) := (blk_cell BK261.out 0).trans rfl; have hcz70_1 : w69.cell? ⟨gb261, 1, none⟩ = some (.slice Ao19 t258.length co19) := (blk_cell BK261.out 1).trans rfl; have hfz70_0 := blk_frozen BK261.out 0; have hfz70_1 := blk_frozen BK261.out 1) | (go_at_call 24; (with_reducible refine (clock_Before.calls kj13 t257 _ _ t258 t263 (wrap64 ((wrap64 (t262 + t271)) - 100)) true _ ?side1 ?side2 A47.out).mono ?_); (case side1 => repeat (first | exact (Kd.R_reads' HO_262001.out).2.2 | (with_reducible refine Kd.C_alloc ?_ _) | (with_reducible refine Kd.C_drewN ?_ _) | (with_reducible refine Kd.C_drew ?_))); (case side2 => exact (Kd.R_reads' HO_262001.out).2.1); rintro e w71 ⟨rfl, hb⟩; have n0_ := Aside0.mk (Kd.R_below (by (with_reducible repeat (first | apply Kd.R_alloc | apply Kd.R_drewN | apply Kd.R_drew)); exact HO_262001.out) hb); have n1_ := Aside0.mk (blk_below (g := gb261) (o := .cells #[.int .i64 t257, .slice Ao19 t258.length co19] 24 (0, 0)) (by (with_reducible repeat (first | refine blk_drewN ?_ _ | refine blk_drew ?_ | refine blk_alloc ?_ _)); exact BK261.out) hb); have n2_ := Aside0.mk (below_step (by repeat (first | (with_reducible first | exact HB.out | apply below_alloc | apply pw_below_drewN | apply below_drew1 | refine below_set ?_ GE261.out) | exact HB.out)) hb); clear HO_262001; clear BK261; clear HB; have HO_262001 := n0_; have BK261 := n1_; have HB := n2_; clear n0_ n1_ n2_; (try clear hb); (try clear hb2); (try clear hk); (try clear hi); have hcz72_0 : w71.cell? ⟨gb261, 0, none⟩ = some (.int .i64 t257) := (blk_cell BK261.out 0).trans rfl; have hcz72_1 : w71.cell? ⟨gb261, 1, none⟩ = some (.slice Ao19 t258.length co19) := (blk_cell BK261.out 1).trans rfl; have hfz72_0 := blk_frozen BK261.out 0; have hfz72_1 := blk_frozen BK261.out 1) | (go_at_call 26; (with_reducible refine (clock_After.calls kj13 t257 _ _ t258 t263 (wrap64 ((wrap64 (t262 + t271)) - 100)) false _ ?side1 ?side2 A56.out).mono ?_); (case side1 => repeat (first | exact (Kd.R_reads' HO_262001.out).2.2 | (with_reducible refine Kd.C_alloc ?_ _) | (with_reducible refine Kd.C_drewN ?_ _) | (with_reducible refine Kd.C_drew ?_))); (case side2 => exact (Kd.R_reads' HO_262001.out).2.1); rintro e w73 ⟨rfl, hb⟩; have n0_ := Aside0.mk (Kd.R_below (by (with_reducible repeat (first | apply Kd.R_alloc | apply Kd.R_drewN | apply Kd.R_drew)); exact HO_262001.out) hb); have n1_ := Aside0.mk (blk_below (g := gb261) (o := .cells #[.int .i64 t257, .slice Ao19 t258.length co19] 24 (0, 0)) (by (with_reducible repeat (first | refine blk_drewN ?_ _ | refine blk_drew ?_ | refine blk_alloc ?_ _)); exact BK261.out) hb); have n2_ := Aside0.mk (below_step (by repeat (first | (with_reducible first | exact HB.out | apply below_alloc | apply pw_below_drewN | apply below_drew1 | refine below_set ?_ GE261.out) | exact HB.out)) hb); clear HO_262001; clear BK261; clear HB; have HO_262001 := n0_; have BK261 := n1_; have HB := n2_; clear n0_ n1_ n2_; (try clear hb); (try clear hb2); (try clear hk); (try clear hi)))
                          go_meet
                          case rel => exact ⟨_, (false), (by first | rfl | (simp; done) | (simp [*]; done)), H', ⟨by have := HJ13.out; first | omega | exact Nat.le_refl _⟩, ⟨by (with_reducible repeat (first | apply Kd.R_alloc | apply Kd.R_drewN | apply Kd.R_drew)); exact HO_262001.out⟩, ⟨by (with_reducible repeat (first | refine blk_drewN ?_ _ | refine blk_drew ?_ | refine blk_alloc ?_ _)); exact BK261.out⟩, ⟨by repeat (first | (with_reducible first | exact HB.out | apply below_alloc | apply pw_below_drewN | apply below_drew1 | refine below_set ?_ GE261.out) | exact HB.out)⟩⟩
                    · replace c48 := Bool.eq_false_iff.mpr c48
                      subst c48
                      have H1 : ((clock_After.f kj13 t257 t258 t263 (wrap64 ((wrap64 (t262 + t271)) - 100))).bind fun t276 => (if t276 = true then (dialtonelaw05_ClockSound.j1 kj13 t262 t263 t264 t265 t267 t268 (decide (t262 ≤ (wrap64 ((wrap64 (t262 + t271)) - 100))))) else (dialtonelaw05_ClockSound.j1 kj13 t262 t263 t264 t265 t267 t268 false))) = some r := by rw [if_neg (show ¬ (false = true) by decide)] at H; exact H
                      clear H
                      have H := H1
                      clear H1
                      replace H := Option.bind_eq_some_iff.mp H
                      obtain ⟨t276, A740, H⟩ := H
                      replace H : (if t276 = true then (dialtonelaw05_ClockSound.j1 kj13 t262 t263 t264 t265 t267 t268 (decide (t262 ≤ (wrap64 ((wrap64 (t262 + t271)) - 100))))) else (dialtonelaw05_ClockSound.j1 kj13 t262 t263 t264 t265 t267 t268 false)) = some r := H
                      have A74 := Aside0.mk A740
                      clear A740
                      by_cases c75 : t276 = true
                      · subst c75
                        have H1 : (dialtonelaw05_ClockSound.j1 kj13 t262 t263 t264 t265 t267 t268 (decide (t262 ≤ (wrap64 ((wrap64 (t262 + t271)) - 100))))) = some r := by rw [if_pos rfl] at H; exact H
                        clear H
                        have H := H1
                        clear H1
                        have H' := Aside0.mk H
                        clear H
                        have hcz76_0 : w34.cell? ⟨gb261, 0, none⟩ = some (.int .i64 t257) := (blk_cell BK261.out 0).trans rfl
                        have hcz76_1 : w34.cell? ⟨gb261, 1, none⟩ = some (.slice Ao19 t258.length co19) := (blk_cell BK261.out 1).trans rfl
                        have hfz76_0 := blk_frozen BK261.out 0
                        have hfz76_1 := blk_frozen BK261.out 1
                        go_wp2_with (first | ((with_reducible refine gate_callee (f := 24) rfl ?_); refine goesL_ (some 71) rfl rfl Try.func24 (by kernel_rfl) rfl #[.agg #[.int .i64 t257, .slice Ao19 t258.length co19], .int .i64 t263, .int .i64 a5] rfl (by (try simp only [List.map_toArray, List.map_cons, List.map_nil]); first | done | rfl | (simp only [List.length_drop, List.length_take]; rfl)) ?_; (with_reducible refine (clock_Before.calls kj13 t257 _ _ t258 t263 a5 true _ ?side1 ?side2 A35.out).mono ?_); (case side1 => repeat (first | exact (Kd.R_reads' HO_262001.out).2.2 | (with_reducible refine Kd.C_alloc ?_ _) | (with_reducible refine Kd.C_drewN ?_ _) | (with_reducible refine Kd.C_drew ?_))); (case side2 => exact (Kd.R_reads' HO_262001.out).2.1); rintro e w77 ⟨rfl, hb⟩; refine ⟨_, rfl, ?_⟩; have n0_ := Aside0.mk (Kd.R_below (by (with_reducible repeat (first | apply Kd.R_alloc | apply Kd.R_drewN | apply Kd.R_drew)); exact HO_262001.out) hb); have n1_ := Aside0.mk (blk_below (g := gb261) (o := .cells #[.int .i64 t257, .slice Ao19 t258.length co19] 24 (0, 0)) (by (with_reducible repeat (first | refine blk_drewN ?_ _ | refine blk_drew ?_ | refine blk_alloc ?_ _)); exact BK261.out) hb); have n2_ := Aside0.mk (below_step (by repeat (first | (with_reducible first | exact HB.out | apply below_alloc | apply pw_below_drewN | apply below_drew1 | refine below_set ?_ GE261.out) | exact HB.out)) hb); clear HO_262001; clear BK261; clear HB; have HO_262001 := n0_; have BK261 := n1_; have HB := n2_; clear n0_ n1_ n2_; (try clear hb); (try clear hb2); (try clear hk); (try clear hi); have hcz78_0 : w77.cell? ⟨gb261, 0, none⟩ = some (.int .i64 t257) := (blk_cell BK261.out 0).trans rfl; have hcz78_1 : w77.cell? ⟨gb261, 1, none⟩ = some (.slice Ao19 t258.length co19) := (blk_cell BK261.out 1).trans rfl; have hfz78_0 := blk_frozen BK261.out 0; have hfz78_1 := blk_frozen BK261.out 1) | (go_at_call 26; (with_reducible refine (clock_After.calls kj13 t257 _ _ t258 t263 a5 true _ ?side1 ?side2 A40.out).mono ?_); (case side1 => repeat (first | exact (Kd.R_reads' HO_262001.out).2.2 | (with_reducible refine Kd.C_alloc ?_ _) | (with_reducible refine Kd.C_drewN ?_ _) | (with_reducible refine Kd.C_drew ?_))); (case side2 => exact (Kd.R_reads' HO_262001.out).2.1); rintro e w79 ⟨rfl, hb⟩; have n0_ := Aside0.mk (Kd.R_below (by (with_reducible repeat (first | apply Kd.R_alloc | apply Kd.R_drewN | apply Kd.R_drew)); exact HO_262001.out) hb); have n1_ := Aside0.mk (blk_below (g := gb261) (o := .cells #[.int .i64 t257, .slice Ao19 t258.length co19] 24 (0, 0)) (by (with_reducible repeat (first | refine blk_drewN ?_ _ | refine blk_drew ?_ | refine blk_alloc ?_ _)); exact BK261.out) hb); have n2_ := Aside0.mk (below_step (by repeat (first | (with_reducible first | exact HB.out | apply below_alloc | apply pw_below_drewN | apply below_drew1 | refine below_set ?_ GE261.out) | exact HB.out)) hb); clear HO_262001; clear BK261; clear HB; have HO_262001 := n0_; have BK261 := n1_; have HB := n2_; clear n0_ n1_ n2_; (try clear hb); (try clear hb2); (try clear hk); (try clear hi); have hcz80_0 : w79.cell? ⟨gb261, 0, none⟩ = some (.int .i64 t257) := (blk_cell BK261.out 0).trans rfl; have hcz80_1 : w79.cell? ⟨gb261, 1, none⟩ = some (.slice Ao19 t258.length co19) := (blk_cell BK261.out 1).trans rfl; have hfz80_0 := blk_frozen BK261.out 0; have hfz80_1 := blk_frozen BK261.out 1) | (go_at_call 24; (with_reducible refine (clock_Before.calls kj13 t257 _ _ t258 t263 (wrap64 ((wrap64 (t262 + t271)) - 100)) false _ ?side1 ?side2 A47.out).mono ?_); (case side1 => repeat (first | exact (Kd.R_reads' HO_262001.out).2.2 | (with_reducible refine Kd.C_alloc ?_ _) | (with_reducible refine Kd.C_drewN ?_ _) | (with_reducible refine Kd.C_drew ?_))); (case side2 => exact (Kd.R_reads' HO_262001.out).2.1); rintro e w81 ⟨rfl, hb⟩; have n0_ := Aside0.mk (Kd.R_below (by (with_reducible repeat (first | apply Kd.R_alloc | apply Kd.R_drewN | apply Kd.R_drew)); exact HO_262001.out) hb); have n1_ := Aside0.mk (blk_below (g := gb261) (o := .cells #[.int .i64 t257, .slice Ao19 t258.length co19] 24 (0, 0)) (by (with_reducible repeat (first | refine blk_drewN ?_ _ | refine blk_drew ?_ | refine blk_alloc ?_ _)); exact BK261.out) hb); have n2_ := Aside0.mk (below_step (by repeat (first | (with_reducible first | exact HB.out | apply below_alloc | apply pw_below_drewN | apply below_drew1 | refine below_set ?_ GE261.out) | exact HB.out)) hb); clear HO_262001; clear BK261; clear HB; have HO_262001 := n0_; have BK261 := n1_; have HB := n2_; clear n0_ n1_ n2_; (try clear hb); (try clear hb2); (try clear hk); (try clear hi); have hcz82_0 : w81.cell? ⟨gb261, 0, none⟩ = some (.int .i64 t257) := (blk_cell BK261.out 0).trans rfl; have hcz82_1 : w81.cell? ⟨gb261, 1, none⟩ = some (.slice Ao19 t258.length co19) := (blk_cell BK261.out 1).trans rfl; have hfz82_0 := blk_frozen BK261.out 0; have hfz82_1 := blk_frozen BK261.out 1) | (go_at_call 26; (with_reducible refine (clock_After.calls kj13 t257 _ _ t258 t263 (wrap64 ((wrap64 (t262 + t271)) - 100)) true _ ?side1 ?side2 A74.out).mono ?_); (case side1 => repeat (first | exact (Kd.R_reads' HO_262001.out).2.2 | (with_reducible refine Kd.C_alloc ?_ _) | (with_reducible refine Kd.C_drewN ?_ _) | (with_reducible refine Kd.C_drew ?_))); (case side2 => exact (Kd.R_reads' HO_262001.out).2.1); rintro e w83 ⟨rfl, hb⟩; have n0_ := Aside0.mk (Kd.R_below (by (with_reducible repeat (first | apply Kd.R_alloc | apply Kd.R_drewN | apply Kd.R_drew)); exact HO_262001.out) hb); have n1_ := Aside0.mk (blk_below (g := gb261) (o := .cells #[.int .i64 t257, .slice Ao19 t258.length co19] 24 (0, 0)) (by (with_reducible repeat (first | refine blk_drewN ?_ _ | refine blk_drew ?_ | refine blk_alloc ?_ _)); exact BK261.out) hb); have n2_ := Aside0.mk (below_step (by repeat (first | (with_reducible first | exact HB.out | apply below_alloc | apply pw_below_drewN | apply below_drew1 | refine below_set ?_ GE261.out) | exact HB.out)) hb); clear HO_262001; clear BK261; clear HB; have HO_262001 := n0_; have BK261 := n1_; have HB := n2_; clear n0_ n1_ n2_; (try clear hb); (try clear hb2); (try clear hk); (try clear hi)))
                        go_meet
                        case rel => exact ⟨_, (decide (t262 ≤ (wrap64 ((wrap64 (t262 + t271)) - 100)))), (by first | rfl | (simp; done) | (simp [*]; done)), H', ⟨by have := HJ13.out; first | omega | exact Nat.le_refl _⟩, ⟨by (with_reducible repeat (first | apply Kd.R_alloc | apply Kd.R_drewN | apply Kd.R_drew)); exact HO_262001.out⟩, ⟨by (with_reducible repeat (first | refine blk_drewN ?_ _ | refine blk_drew ?_ | refine blk_alloc ?_ _)); exact BK261.out⟩, ⟨by repeat (first | (with_reducible first | exact HB.out | apply below_alloc | apply pw_below_drewN | apply below_drew1 | refine below_set ?_ GE261.out) | exact HB.out)⟩⟩
                      · replace c75 := Bool.eq_false_iff.mpr c75
                        subst c75
                        have H1 : (dialtonelaw05_ClockSound.j1 kj13 t262 t263 t264 t265 t267 t268 false) = some r := by rw [if_neg (show ¬ (false = true) by decide)] at H; exact H
                        clear H
                        have H := H1
                        clear H1
                        have H' := Aside0.mk H
                        clear H
                        have hcz84_0 : w34.cell? ⟨gb261, 0, none⟩ = some (.int .i64 t257) := (blk_cell BK261.out 0).trans rfl
                        have hcz84_1 : w34.cell? ⟨gb261, 1, none⟩ = some (.slice Ao19 t258.length co19) := (blk_cell BK261.out 1).trans rfl
                        have hfz84_0 := blk_frozen BK261.out 0
                        have hfz84_1 := blk_frozen BK261.out 1
                        go_wp2_with (first | ((with_reducible refine gate_callee (f := 24) rfl ?_); refine goesL_ (some 71) rfl rfl Try.func24 (by kernel_rfl) rfl #[.agg #[.int .i64 t257, .slice Ao19 t258.length co19], .int .i64 t263, .int .i64 a5] rfl (by (try simp only [List.map_toArray, List.map_cons, List.map_nil]); first | done | rfl | (simp only [List.length_drop, List.length_take]; rfl)) ?_; (with_reducible refine (clock_Before.calls kj13 t257 _ _ t258 t263 a5 true _ ?side1 ?side2 A35.out).mono ?_); (case side1 => repeat (first | exact (Kd.R_reads' HO_262001.out).2.2 | (with_reducible refine Kd.C_alloc ?_ _) | (with_reducible refine Kd.C_drewN ?_ _) | (with_reducible refine Kd.C_drew ?_))); (case side2 => exact (Kd.R_reads' HO_262001.out).2.1); rintro e w85 ⟨rfl, hb⟩; refine ⟨_, rfl, ?_⟩; have n0_ := Aside0.mk (Kd.R_below (by (with_reducible repeat (first | apply Kd.R_alloc | apply Kd.R_drewN | apply Kd.R_drew)); exact HO_262001.out) hb); have n1_ := Aside0.mk (blk_below (g := gb261) (o := .cells #[.int .i64 t257, .slice Ao19 t258.length co19] 24 (0, 0)) (by (with_reducible repeat (first | refine blk_drewN ?_ _ | refine blk_drew ?_ | refine blk_alloc ?_ _)); exact BK261.out) hb); have n2_ := Aside0.mk (below_step (by repeat (first | (with_reducible first | exact HB.out | apply below_alloc | apply pw_below_drewN | apply below_drew1 | refine below_set ?_ GE261.out) | exact HB.out)) hb); clear HO_262001; clear BK261; clear HB; have HO_262001 := n0_; have BK261 := n1_; have HB := n2_; clear n0_ n1_ n2_; (try clear hb); (try clear hb2); (try clear hk); (try clear hi); have hcz86_0 : w85.cell? ⟨gb261, 0, none⟩ = some (.int .i64 t257) := (blk_cell BK261.out 0).trans rfl; have hcz86_1 : w85.cell? ⟨gb261, 1, none⟩ = some (.slice Ao19 t258.length co19) := (blk_cell BK261.out 1).trans rfl; have hfz86_0 := blk_frozen BK261.out 0; have hfz86_1 := blk_frozen BK261.out 1) | (go_at_call 26; (with_reducible refine (clock_After.calls kj13 t257 _ _ t258 t263 a5 true _ ?side1 ?side2 A40.out).mono ?_); (case side1 => repeat (first | exact (Kd.R_reads' HO_262001.out).2.2 | (with_reducible refine Kd.C_alloc ?_ _) | (with_reducible refine Kd.C_drewN ?_ _) | (with_reducible refine Kd.C_drew ?_))); (case side2 => exact (Kd.R_reads' HO_262001.out).2.1); rintro e w87 ⟨rfl, hb⟩; have n0_ := Aside0.mk (Kd.R_below (by (with_reducible repeat (first | apply Kd.R_alloc | apply Kd.R_drewN | apply Kd.R_drew)); exact HO_262001.out) hb); have n1_ := Aside0.mk (blk_below (g := gb261) (o := .cells #[.int .i64 t257, .slice Ao19 t258.length co19] 24 (0, 0)) (by (with_reducible repeat (first | refine blk_drewN ?_ _ | refine blk_drew ?_ | refine blk_alloc ?_ _)); exact BK261.out) hb); have n2_ := Aside0.mk (below_step (by repeat (first | (with_reducible first | exact HB.out | apply below_alloc | apply pw_below_drewN | apply below_drew1 | refine below_set ?_ GE261.out) | exact HB.out)) hb); clear HO_262001; clear BK261; clear HB; have HO_262001 := n0_; have BK261 := n1_; have HB := n2_; clear n0_ n1_ n2_; (try clear hb); (try clear hb2); (try clear hk); (try clear hi); have hcz88_0 : w87.cell? ⟨gb261, 0, none⟩ = some (.int .i64 t257) := (blk_cell BK261.out 0).trans rfl; have hcz88_1 : w87.cell? ⟨gb261, 1, none⟩ = some (.slice Ao19 t258.length co19) := (blk_cell BK261.out 1).trans rfl; have hfz88_0 := blk_frozen BK261.out 0; have hfz88_1 := blk_frozen BK261.out 1) | (go_at_call 24; (with_reducible refine (clock_Before.calls kj13 t257 _ _ t258 t263 (wrap64 ((wrap64 (t262 + t271)) - 100)) false _ ?side1 ?side2 A47.out).mono ?_); (case side1 => repeat (first | exact (Kd.R_reads' HO_262001.out).2.2 | (with_reducible refine Kd.C_alloc ?_ _) | (with_reducible refine Kd.C_drewN ?_ _) | (with_reducible refine Kd.C_drew ?_))); (case side2 => exact (Kd.R_reads' HO_262001.out).2.1); rintro e w89 ⟨rfl, hb⟩; have n0_ := Aside0.mk (Kd.R_below (by (with_reducible repeat (first | apply Kd.R_alloc | apply Kd.R_drewN | apply Kd.R_drew)); exact HO_262001.out) hb); have n1_ := Aside0.mk (blk_below (g := gb261) (o := .cells #[.int .i64 t257, .slice Ao19 t258.length co19] 24 (0, 0)) (by (with_reducible repeat (first | refine blk_drewN ?_ _ | refine blk_drew ?_ | refine blk_alloc ?_ _)); exact BK261.out) hb); have n2_ := Aside0.mk (below_step (by repeat (first | (with_reducible first | exact HB.out | apply below_alloc | apply pw_below_drewN | apply below_drew1 | refine below_set ?_ GE261.out) | exact HB.out)) hb); clear HO_262001; clear BK261; clear HB; have HO_262001 := n0_; have BK261 := n1_; have HB := n2_; clear n0_ n1_ n2_; (try clear hb); (try clear hb2); (try clear hk); (try clear hi); have hcz90_0 : w89.cell? ⟨gb261, 0, none⟩ = some (.int .i64 t257) := (blk_cell BK261.out 0).trans rfl; have hcz90_1 : w89.cell? ⟨gb261, 1, none⟩ = some (.slice Ao19 t258.length co19) := (blk_cell BK261.out 1).trans rfl; have hfz90_0 := blk_frozen BK261.out 0; have hfz90_1 := blk_frozen BK261.out 1) | (go_at_call 26; (with_reducible refine (clock_After.calls kj13 t257 _ _ t258 t263 (wrap64 ((wrap64 (t262 + t271)) - 100)) false _ ?side1 ?side2 A74.out).mono ?_); (case side1 => repeat (first | exact (Kd.R_reads' HO_262001.out).2.2 | (with_reducible refine Kd.C_alloc ?_ _) | (with_reducible refine Kd.C_drewN ?_ _) | (with_reducible refine Kd.C_drew ?_))); (case side2 => exact (Kd.R_reads' HO_262001.out).2.1); rintro e w91 ⟨rfl, hb⟩; have n0_ := Aside0.mk (Kd.R_below (by (with_reducible repeat (first | apply Kd.R_alloc | apply Kd.R_drewN | apply Kd.R_drew)); exact HO_262001.out) hb); have n1_ := Aside0.mk (blk_below (g := gb261) (o := .cells #[.int .i64 t257, .slice Ao19 t258.length co19] 24 (0, 0)) (by (with_reducible repeat (first | refine blk_drewN ?_ _ | refine blk_drew ?_ | refine blk_alloc ?_ _)); exact BK261.out) hb); have n2_ := Aside0.mk (below_step (by repeat (first | (with_reducible first | exact HB.out | apply below_alloc | apply pw_below_drewN | apply below_drew1 | refine below_set ?_ GE261.out) | exact HB.out)) hb); clear HO_262001; clear BK261; clear HB; have HO_262001 := n0_; have BK261 := n1_; have HB := n2_; clear n0_ n1_ n2_; (try clear hb); (try clear hb2); (try clear hk); (try clear hi)))
                        go_meet
                        case rel => exact ⟨_, (false), (by first | rfl | (simp; done) | (simp [*]; done)), H', ⟨by have := HJ13.out; first | omega | exact Nat.le_refl _⟩, ⟨by (with_reducible repeat (first | apply Kd.R_alloc | apply Kd.R_drewN | apply Kd.R_drew)); exact HO_262001.out⟩, ⟨by (with_reducible repeat (first | refine blk_drewN ?_ _ | refine blk_drew ?_ | refine blk_alloc ?_ _)); exact BK261.out⟩, ⟨by repeat (first | (with_reducible first | exact HB.out | apply below_alloc | apply pw_below_drewN | apply below_drew1 | refine below_set ?_ GE261.out) | exact HB.out)⟩⟩
                · replace c41 := Bool.eq_false_iff.mpr c41
                  subst c41
                  have H1 : ((clock_Before.f kj13 t257 t258 t263 (wrap64 ((wrap64 (t262 + t271)) - 100))).bind fun t277 => (if t277 = true then (if t262 ≥ (wrap64 ((wrap64 (t262 + t271)) - 100)) then (dialtonelaw05_ClockSound.j1 kj13 t262 t263 t264 t265 t267 t268 true) else ((clock_After.f kj13 t257 t258 t263 (wrap64 ((wrap64 (t262 + t271)) - 100))).bind fun t278 => (if t278 = true then (dialtonelaw05_ClockSound.j1 kj13 t262 t263 t264 t265 t267 t268 (decide (t262 ≤ (wrap64 ((wrap64 (t262 + t271)) - 100))))) else (dialtonelaw05_ClockSound.j1 kj13 t262 t263 t264 t265 t267 t268 false)))) else ((clock_After.f kj13 t257 t258 t263 (wrap64 ((wrap64 (t262 + t271)) - 100))).bind fun t279 => (if t279 = true then (dialtonelaw05_ClockSound.j1 kj13 t262 t263 t264 t265 t267 t268 (decide (t262 ≤ (wrap64 ((wrap64 (t262 + t271)) - 100))))) else (dialtonelaw05_ClockSound.j1 kj13 t262 t263 t264 t265 t267 t268 false))))) = some r := by rw [if_neg (show ¬ (false = true) by decide)] at H; exact H
                  clear H
                  have H := H1
                  clear H1
                  replace H := Option.bind_eq_some_iff.mp H
                  obtain ⟨t277, A920, H⟩ := H
                  replace H : (if t277 = true then (if t262 ≥ (wrap64 ((wrap64 (t262 + t271)) - 100)) then (dialtonelaw05_ClockSound.j1 kj13 t262 t263 t264 t265 t267 t268 true) else ((clock_After.f kj13 t257 t258 t263 (wrap64 ((wrap64 (t262 + t271)) - 100))).bind fun t278 => (if t278 = true then (dialtonelaw05_ClockSound.j1 kj13 t262 t263 t264 t265 t267 t268 (decide (t262 ≤ (wrap64 ((wrap64 (t262 + t271)) - 100))))) else (dialtonelaw05_ClockSound.j1 kj13 t262 t263 t264 t265 t267 t268 false)))) else ((clock_After.f kj13 t257 t258 t263 (wrap64 ((wrap64 (t262 + t271)) - 100))).bind fun t279 => (if t279 = true then (dialtonelaw05_ClockSound.j1 kj13 t262 t263 t264 t265 t267 t268 (decide (t262 ≤ (wrap64 ((wrap64 (t262 + t271)) - 100))))) else (dialtonelaw05_ClockSound.j1 kj13 t262 t263 t264 t265 t267 t268 false)))) = some r := H
                  have A92 := Aside0.mk A920
                  clear A920
                  by_cases c93 : t277 = true
                  · subst c93
                    have H1 : (if t262 ≥ (wrap64 ((wrap64 (t262 + t271)) - 100)) then (dialtonelaw05_ClockSound.j1 kj13 t262 t263 t264 t265 t267 t268 true) else ((clock_After.f kj13 t257 t258 t263 (wrap64 ((wrap64 (t262 + t271)) - 100))).bind fun t278 => (if t278 = true then (dialtonelaw05_ClockSound.j1 kj13 t262 t263 t264 t265 t267 t268 (decide (t262 ≤ (wrap64 ((wrap64 (t262 + t271)) - 100))))) else (dialtonelaw05_ClockSound.j1 kj13 t262 t263 t264 t265 t267 t268 false)))) = some r := by rw [if_pos rfl] at H; exact H
                    clear H
                    have H := H1
                    clear H1
                    by_cases c94 : t262 ≥ (wrap64 ((wrap64 (t262 + t271)) - 100))
                    · rw [if_pos c94] at H
                      have c94b0 : decide ((wrap64 ((wrap64 (t262 + t271)) - 100)) ≤ t262) = true := decide_eq_true c94
                      clear c94
                      have H' := Aside0.mk H
                      clear H
                      have hcz95_0 : w34.cell? ⟨gb261, 0, none⟩ = some (.int .i64 t257) := (blk_cell BK261.out 0).trans rfl
                      have hcz95_1 : w34.cell? ⟨gb261, 1, none⟩ = some (.slice Ao19 t258.length co19) := (blk_cell BK261.out 1).trans rfl
                      have hfz95_0 := blk_frozen BK261.out 0
                      have hfz95_1 := blk_frozen BK261.out 1
                      go_wp2_with (first | ((with_reducible refine gate_callee (f := 24) rfl ?_); refine goesL_ (some 71) rfl rfl Try.func24 (by kernel_rfl) rfl #[.agg #[.int .i64 t257, .slice Ao19 t258.length co19], .int .i64 t263, .int .i64 a5] rfl (by (try simp only [List.map_toArray, List.map_cons, List.map_nil]); first | done | rfl | (simp only [List.length_drop, List.length_take]; rfl)) ?_; (with_reducible refine (clock_Before.calls kj13 t257 _ _ t258 t263 a5 true _ ?side1 ?side2 A35.out).mono ?_); (case side1 => repeat (first | exact (Kd.R_reads' HO_262001.out).2.2 | (with_reducible refine Kd.C_alloc ?_ _) | (with_reducible refine Kd.C_drewN ?_ _) | (with_reducible refine Kd.C_drew ?_))); (case side2 => exact (Kd.R_reads' HO_262001.out).2.1); rintro e w96 ⟨rfl, hb⟩; refine ⟨_, rfl, ?_⟩; have n0_ := Aside0.mk (Kd.R_below (by (with_reducible repeat (first | apply Kd.R_alloc | apply Kd.R_drewN | apply Kd.R_drew)); exact HO_262001.out) hb); have n1_ := Aside0.mk (blk_below (g := gb261) (o := .cells #[.int .i64 t257, .slice Ao19 t258.length co19] 24 (0, 0)) (by (with_reducible repeat (first | refine blk_drewN ?_ _ | refine blk_drew ?_ | refine blk_alloc ?_ _)); exact BK261.out) hb); have n2_ := Aside0.mk (below_step (by repeat (first | (with_reducible first | exact HB.out | apply below_alloc | apply pw_below_drewN | apply below_drew1 | refine below_set ?_ GE261.out) | exact HB.out)) hb); clear HO_262001; clear BK261; clear HB; have HO_262001 := n0_; have BK261 := n1_; have HB := n2_; clear n0_ n1_ n2_; (try clear hb); (try clear hb2); (try clear hk); (try clear hi); have hcz97_0 : w96.cell? ⟨gb261, 0, none⟩ = some (.int .i64 t257) := (blk_cell BK261.out 0).trans rfl; have hcz97_1 : w96.cell? ⟨gb261, 1, none⟩ = some (.slice Ao19 t258.length co19) := (blk_cell BK261.out 1).trans rfl; have hfz97_0 := blk_frozen BK261.out 0; have hfz97_1 := blk_frozen BK261.out 1) | (go_at_call 26; (with_reducible refine (clock_After.calls kj13 t257 _ _ t258 t263 a5 false _ ?side1 ?side2 A40.out).mono ?_); (case side1 => repeat (first | exact (Kd.R_reads' HO_262001.out).2.2 | (with_reducible refine Kd.C_alloc ?_ _) | (with_reducible refine Kd.C_drewN ?_ _) | (with_reducible refine Kd.C_drew ?_))); (case side2 => exact (Kd.R_reads' HO_262001.out).2.1); rintro e w98 ⟨rfl, hb⟩; have n0_ := Aside0.mk (Kd.R_below (by (with_reducible repeat (first | apply Kd.R_alloc | apply Kd.R_drewN | apply Kd.R_drew)); exact HO_262001.out) hb); have n1_ := Aside0.mk (blk_below (g := gb261) (o := .cells #[.int .i64 t257, .slice Ao19 t258.length co19] 24 (0, 0)) (by (with_reducible repeat (first | refine blk_drewN ?_ _ | refine blk_drew ?_ | refine blk_alloc ?_ _)); exact BK261.out) hb); have n2_ := Aside0.mk (below_step (by repeat (first | (with_reducible first | exact HB.out | apply below_alloc | apply pw_below_drewN | apply below_drew1 | refine below_set ?_ GE261.out) | exact HB.out)) hb); clear HO_262001; clear BK261; clear HB; have HO_262001 := n0_; have BK261 := n1_; have HB := n2_; clear n0_ n1_ n2_; (try clear hb); (try clear hb2); (try clear hk); (try clear hi); have hcz99_0 : w98.cell? ⟨gb261, 0, none⟩ = some (.int .i64 t257) := (blk_cell BK261.out 0).trans rfl; have hcz99_1 : w98.cell? ⟨gb261, 1, none⟩ = some (.slice Ao19 t258.length co19) := (blk_cell BK261.out 1).trans rfl; have hfz99_0 := blk_frozen BK261.out 0; have hfz99_1 := blk_frozen BK261.out 1) | (go_at_call 24; (with_reducible refine (clock_Before.calls kj13 t257 _ _ t258 t263 (wrap64 ((wrap64 (t262 + t271)) - 100)) true _ ?side1 ?side2 A92.out).mono ?_); (case side1 => repeat (first | exact (Kd.R_reads' HO_262001.out).2.2 | (with_reducible refine Kd.C_alloc ?_ _) | (with_reducible refine Kd.C_drewN ?_ _) | (with_reducible refine Kd.C_drew ?_))); (case side2 => exact (Kd.R_reads' HO_262001.out).2.1); rintro e w100 ⟨rfl, hb⟩; have n0_ := Aside0.mk (Kd.R_below (by (with_reducible repeat (first | apply Kd.R_alloc | apply Kd.R_drewN | apply Kd.R_drew)); exact HO_262001.out) hb); have n1_ := Aside0.mk (blk_below (g := gb261) (o := .cells #[.int .i64 t257, .slice Ao19 t258.length co19] 24 (0, 0)) (by (with_reducible repeat (first | refine blk_drewN ?_ _ | refine blk_drew ?_ | refine blk_alloc ?_ _)); exact BK261.out) hb); have n2_ := Aside0.mk (below_step (by repeat (first | (with_reducible first | exact HB.out | apply below_alloc | apply pw_below_drewN | apply below_drew1 | refine below_set ?_ GE261.out) | exact HB.out)) hb); clear HO_262001; clear BK261; clear HB; have HO_262001 := n0_; have BK261 := n1_; have HB := n2_; clear n0_ n1_ n2_; (try clear hb); (try clear hb2); (try clear hk); (try clear hi)))
                      go_meet
                      case rel => exact ⟨_, (true), (by first | rfl | (simp; done) | (simp [*]; done)), H', ⟨by have := HJ13.out; first | omega | exact Nat.le_refl _⟩, ⟨by (with_reducible repeat (first | apply Kd.R_alloc | apply Kd.R_drewN | apply Kd.R_drew)); exact HO_262001.out⟩, ⟨by (with_reducible repeat (first | refine blk_drewN ?_ _ | refine blk_drew ?_ | refine blk_alloc ?_ _)); exact BK261.out⟩, ⟨by repeat (first | (with_reducible first | exact HB.out | apply below_alloc | apply pw_below_drewN | apply below_drew1 | refine below_set ?_ GE261.out) | exact HB.out)⟩⟩
                    · rw [if_neg c94] at H
                      have c94b0 : decide ((wrap64 ((wrap64 (t262 + t271)) - 100)) ≤ t262) = false := decide_eq_false c94
                      clear c94
                      replace H := Option.bind_eq_some_iff.mp H
                      obtain ⟨t278, A1010, H⟩ := H
                      replace H : (if t278 = true then (dialtonelaw05_ClockSound.j1 kj13 t262 t263 t264 t265 t267 t268 (decide (t262 ≤ (wrap64 ((wrap64 (t262 + t271)) - 100))))) else (dialtonelaw05_ClockSound.j1 kj13 t262 t263 t264 t265 t267 t268 false)) = some r := H
                      have A101 := Aside0.mk A1010
                      clear A1010
                      by_cases c102 : t278 = true
                      · subst c102
                        have H1 : (dialtonelaw05_ClockSound.j1 kj13 t262 t263 t264 t265 t267 t268 (decide (t262 ≤ (wrap64 ((wrap64 (t262 + t271)) - 100))))) = some r := by rw [if_pos rfl] at H; exact H
                        clear H
                        have H := H1
                        clear H1
                        have H' := Aside0.mk H
                        clear H
                        have hcz103_0 : w34.cell? ⟨gb261, 0, none⟩ = some (.int .i64 t257) := (blk_cell BK261.out 0).trans rfl
                        have hcz103_1 : w34.cell? ⟨gb261, 1, none⟩ = some (.slice Ao19 t258.length co19) := (blk_cell BK261.out 1).trans rfl
                        have hfz103_0 := blk_frozen BK261.out 0
                        have hfz103_1 := blk_frozen BK261.out 1
                        go_wp2_with (first | ((with_reducible refine gate_callee (f := 24) rfl ?_); refine goesL_ (some 71) rfl rfl Try.func24 (by kernel_rfl) rfl #[.agg #[.int .i64 t257, .slice Ao19 t258.length co19], .int .i64 t263, .int .i64 a5] rfl (by (try simp only [List.map_toArray, List.map_cons, List.map_nil]); first | done | rfl | (simp only [List.length_drop, List.length_take]; rfl)) ?_; (with_reducible refine (clock_Before.calls kj13 t257 _ _ t258 t263 a5 true _ ?side1 ?side2 A35.out).mono ?_); (case side1 => repeat (first | exact (Kd.R_reads' HO_262001.out).2.2 | (with_reducible refine Kd.C_alloc ?_ _) | (with_reducible refine Kd.C_drewN ?_ _) | (with_reducible refine Kd.C_drew ?_))); (case side2 => exact (Kd.R_reads' HO_262001.out).2.1); rintro e w104 ⟨rfl, hb⟩; refine ⟨_, rfl, ?_⟩; have n0_ := Aside0.mk (Kd.R_below (by (with_reducible repeat (first | apply Kd.R_alloc | apply Kd.R_drewN | apply Kd.R_drew)); exact HO_262001.out) hb); have n1_ := Aside0.mk (blk_below (g := gb261) (o := .cells #[.int .i64 t257, .slice Ao19 t258.length co19] 24 (0, 0)) (by (with_reducible repeat (first | refine blk_drewN ?_ _ | refine blk_drew ?_ | refine blk_alloc ?_ _)); exact BK261.out) hb); have n2_ := Aside0.mk (below_step (by repeat (first | (with_reducible first | exact HB.out | apply below_alloc | apply pw_below_drewN | apply below_drew1 | refine below_set ?_ GE261.out) | exact HB.out)) hb); clear HO_262001; clear BK261; clear HB; have HO_262001 := n0_; have BK261 := n1_; have HB := n2_; clear n0_ n1_ n2_; (try clear hb); (try clear hb2); (try clear hk); (try clear hi); have hcz105_0 : w104.cell? ⟨gb261, 0, none⟩ = some (.int .i64 t257) := (blk_cell BK261.out 0).trans rfl; have hcz105_1 : w104.cell? ⟨gb261, 1, none⟩ = some (.slice Ao19 t258.length co19) := (blk_cell BK261.out 1).trans rfl; have hfz105_0 := blk_frozen BK261.out 0; have hfz105_1 := blk_frozen BK261.out 1) | (go_at_call 26; (with_reducible refine (clock_After.calls kj13 t257 _ _ t258 t263 a5 false _ ?side1 ?side2 A40.out).mono ?_); (case side1 => repeat (first | exact (Kd.R_reads' HO_262001.out).2.2 | (with_reducible refine Kd.C_alloc ?_ _) | (with_reducible refine Kd.C_drewN ?_ _) | (with_reducible refine Kd.C_drew ?_))); (case side2 => exact (Kd.R_reads' HO_262001.out).2.1); rintro e w106 ⟨rfl, hb⟩; have n0_ := Aside0.mk (Kd.R_below (by (with_reducible repeat (first | apply Kd.R_alloc | apply Kd.R_drewN | apply Kd.R_drew)); exact HO_262001.out) hb); have n1_ := Aside0.mk (blk_below (g := gb261) (o := .cells #[.int .i64 t257, .slice Ao19 t258.length co19] 24 (0, 0)) (by (with_reducible repeat (first | refine blk_drewN ?_ _ | refine blk_drew ?_ | refine blk_alloc ?_ _)); exact BK261.out) hb); have n2_ := Aside0.mk (below_step (by repeat (first | (with_reducible first | exact HB.out | apply below_alloc | apply pw_below_drewN | apply below_drew1 | refine below_set ?_ GE261.out) | exact HB.out)) hb); clear HO_262001; clear BK261; clear HB; have HO_262001 := n0_; have BK261 := n1_; have HB := n2_; clear n0_ n1_ n2_; (try clear hb); (try clear hb2); (try clear hk); (try clear hi); have hcz107_0 : w106.cell? ⟨gb261, 0, none⟩ = some (.int .i64 t257) := (blk_cell BK261.out 0).trans rfl; have hcz107_1 : w106.cell? ⟨gb261, 1, none⟩ = some (.slice Ao19 t258.length co19) := (blk_cell BK261.out 1).trans rfl; have hfz107_0 := blk_frozen BK261.out 0; have hfz107_1 := blk_frozen BK261.out 1) | (go_at_call 24; (with_reducible refine (clock_Before.calls kj13 t257 _ _ t258 t263 (wrap64 ((wrap64 (t262 + t271)) - 100)) true _ ?side1 ?side2 A92.out).mono ?_); (case side1 => repeat (first | exact (Kd.R_reads' HO_262001.out).2.2 | (with_reducible refine Kd.C_alloc ?_ _) | (with_reducible refine Kd.C_drewN ?_ _) | (with_reducible refine Kd.C_drew ?_))); (case side2 => exact (Kd.R_reads' HO_262001.out).2.1); rintro e w108 ⟨rfl, hb⟩; have n0_ := Aside0.mk (Kd.R_below (by (with_reducible repeat (first | apply Kd.R_alloc | apply Kd.R_drewN | apply Kd.R_drew)); exact HO_262001.out) hb); have n1_ := Aside0.mk (blk_below (g := gb261) (o := .cells #[.int .i64 t257, .slice Ao19 t258.length co19] 24 (0, 0)) (by (with_reducible repeat (first | refine blk_drewN ?_ _ | refine blk_drew ?_ | refine blk_alloc ?_ _)); exact BK261.out) hb); have n2_ := Aside0.mk (below_step (by repeat (first | (with_reducible first | exact HB.out | apply below_alloc | apply pw_below_drewN | apply below_drew1 | refine below_set ?_ GE261.out) | exact HB.out)) hb); clear HO_262001; clear BK261; clear HB; have HO_262001 := n0_; have BK261 := n1_; have HB := n2_; clear n0_ n1_ n2_; (try clear hb); (try clear hb2); (try clear hk); (try clear hi); have hcz109_0 : w108.cell? ⟨gb261, 0, none⟩ = some (.int .i64 t257) := (blk_cell BK261.out 0).trans rfl; have hcz109_1 : w108.cell? ⟨gb261, 1, none⟩ = some (.slice Ao19 t258.length co19) := (blk_cell BK261.out 1).trans rfl; have hfz109_0 := blk_frozen BK261.out 0; have hfz109_1 := blk_frozen BK261.out 1) | (go_at_call 26; (with_reducible refine (clock_After.calls kj13 t257 _ _ t258 t263 (wrap64 ((wrap64 (t262 + t271)) - 100)) true _ ?side1 ?side2 A101.out).mono ?_); (case side1 => repeat (first | exact (Kd.R_reads' HO_262001.out).2.2 | (with_reducible refine Kd.C_alloc ?_ _) | (with_reducible refine Kd.C_drewN ?_ _) | (with_reducible refine Kd.C_drew ?_))); (case side2 => exact (Kd.R_reads' HO_262001.out).2.1); rintro e w110 ⟨rfl, hb⟩; have n0_ := Aside0.mk (Kd.R_below (by (with_reducible repeat (first | apply Kd.R_alloc | apply Kd.R_drewN | apply Kd.R_drew)); exact HO_262001.out) hb); have n1_ := Aside0.mk (blk_below (g := gb261) (o := .cells #[.int .i64 t257, .slice Ao19 t258.length co19] 24 (0, 0)) (by (with_reducible repeat (first | refine blk_drewN ?_ _ | refine blk_drew ?_ | refine blk_alloc ?_ _)); exact BK261.out) hb); have n2_ := Aside0.mk (below_step (by repeat (first | (with_reducible first | exact HB.out | apply below_alloc | apply pw_below_drewN | apply below_drew1 | refine below_set ?_ GE261.out) | exact HB.out)) hb); clear HO_262001; clear BK261; clear HB; have HO_262001 := n0_; have BK261 := n1_; have HB := n2_; clear n0_ n1_ n2_; (try clear hb); (try clear hb2); (try clear hk); (try clear hi)))
                        go_meet
                        case rel => exact ⟨_, (decide (t262 ≤ (wrap64 ((wrap64 (t262 + t271)) - 100)))), (by first | rfl | (simp; done) | (simp [*]; done)), H', ⟨by have := HJ13.out; first | omega | exact Nat.le_refl _⟩, ⟨by (with_reducible repeat (first | apply Kd.R_alloc | apply Kd.R_drewN | apply Kd.R_drew)); exact HO_262001.out⟩, ⟨by (with_reducible repeat (first | refine blk_drewN ?_ _ | refine blk_drew ?_ | refine blk_alloc ?_ _)); exact BK261.out⟩, ⟨by repeat (first | (with_reducible first | exact HB.out | apply below_alloc | apply pw_below_drewN | apply below_drew1 | refine below_set ?_ GE261.out) | exact HB.out)⟩⟩
                      · replace c102 := Bool.eq_false_iff.mpr c102
                        subst c102
                        have H1 : (dialtonelaw05_ClockSound.j1 kj13 t262 t263 t264 t265 t267 t268 false) = some r := by rw [if_neg (show ¬ (false = true) by decide)] at H; exact H
                        clear H
                        have H := H1
                        clear H1
                        have H' := Aside0.mk H
                        clear H
                        have hcz111_0 : w34.cell? ⟨gb261, 0, none⟩ = some (.int .i64 t257) := (blk_cell BK261.out 0).trans rfl
                        have hcz111_1 : w34.cell? ⟨gb261, 1, none⟩ = some (.slice Ao19 t258.length co19) := (blk_cell BK261.out 1).trans rfl
                        have hfz111_0 := blk_frozen BK261.out 0
                        have hfz111_1 := blk_frozen BK261.out 1
                        go_wp2_with (first | ((with_reducible refine gate_callee (f := 24) rfl ?_); refine goesL_ (some 71) rfl rfl Try.func24 (by kernel_rfl) rfl #[.agg #[.int .i64 t257, .slice Ao19 t258.length co19], .int .i64 t263, .int .i64 a5] rfl (by (try simp only [List.map_toArray, List.map_cons, List.map_nil]); first | done | rfl | (simp only [List.length_drop, List.length_take]; rfl)) ?_; (with_reducible refine (clock_Before.calls kj13 t257 _ _ t258 t263 a5 true _ ?side1 ?side2 A35.out).mono ?_); (case side1 => repeat (first | exact (Kd.R_reads' HO_262001.out).2.2 | (with_reducible refine Kd.C_alloc ?_ _) | (with_reducible refine Kd.C_drewN ?_ _) | (with_reducible refine Kd.C_drew ?_))); (case side2 => exact (Kd.R_reads' HO_262001.out).2.1); rintro e w112 ⟨rfl, hb⟩; refine ⟨_, rfl, ?_⟩; have n0_ := Aside0.mk (Kd.R_below (by (with_reducible repeat (first | apply Kd.R_alloc | apply Kd.R_drewN | apply Kd.R_drew)); exact HO_262001.out) hb); have n1_ := Aside0.mk (blk_below (g := gb261) (o := .cells #[.int .i64 t257, .slice Ao19 t258.length co19] 24 (0, 0)) (by (with_reducible repeat (first | refine blk_drewN ?_ _ | refine blk_drew ?_ | refine blk_alloc ?_ _)); exact BK261.out) hb); have n2_ := Aside0.mk (below_step (by repeat (first | (with_reducible first | exact HB.out | apply below_alloc | apply pw_below_drewN | apply below_drew1 | refine below_set ?_ GE261.out) | exact HB.out)) hb); clear HO_262001; clear BK261; clear HB; have HO_262001 := n0_; have BK261 := n1_; have HB := n2_; clear n0_ n1_ n2_; (try clear hb); (try clear hb2); (try clear hk); (try clear hi); have hcz113_0 : w112.cell? ⟨gb261, 0, none⟩ = some (.int .i64 t257) := (blk_cell BK261.out 0).trans rfl; have hcz113_1 : w112.cell? ⟨gb261, 1, none⟩ = some (.slice Ao19 t258.length co19) := (blk_cell BK261.out 1).trans rfl; have hfz113_0 := blk_frozen BK261.out 0; have hfz113_1 := blk_frozen BK261.out 1) | (go_at_call 26; (with_reducible refine (clock_After.calls kj13 t257 _ _ t258 t263 a5 false _ ?side1 ?side2 A40.out).mono ?_); (case side1 => repeat (first | exact (Kd.R_reads' HO_262001.out).2.2 | (with_reducible refine Kd.C_alloc ?_ _) | (with_reducible refine Kd.C_drewN ?_ _) | (with_reducible refine Kd.C_drew ?_))); (case side2 => exact (Kd.R_reads' HO_262001.out).2.1); rintro e w114 ⟨rfl, hb⟩; have n0_ := Aside0.mk (Kd.R_below (by (with_reducible repeat (first | apply Kd.R_alloc | apply Kd.R_drewN | apply Kd.R_drew)); exact HO_262001.out) hb); have n1_ := Aside0.mk (blk_below (g := gb261) (o := .cells #[.int .i64 t257, .slice Ao19 t258.length co19] 24 (0, 0)) (by (with_reducible repeat (first | refine blk_drewN ?_ _ | refine blk_drew ?_ | refine blk_alloc ?_ _)); exact BK261.out) hb); have n2_ := Aside0.mk (below_step (by repeat (first | (with_reducible first | exact HB.out | apply below_alloc | apply pw_below_drewN | apply below_drew1 | refine below_set ?_ GE261.out) | exact HB.out)) hb); clear HO_262001; clear BK261; clear HB; have HO_262001 := n0_; have BK261 := n1_; have HB := n2_; clear n0_ n1_ n2_; (try clear hb); (try clear hb2); (try clear hk); (try clear hi); have hcz115_0 : w114.cell? ⟨gb261, 0, none⟩ = some (.int .i64 t257) := (blk_cell BK261.out 0).trans rfl; have hcz115_1 : w114.cell? ⟨gb261, 1, none⟩ = some (.slice Ao19 t258.length co19) := (blk_cell BK261.out 1).trans rfl; have hfz115_0 := blk_frozen BK261.out 0; have hfz115_1 := blk_frozen BK261.out 1) | (go_at_call 24; (with_reducible refine (clock_Before.calls kj13 t257 _ _ t258 t263 (wrap64 ((wrap64 (t262 + t271)) - 100)) true _ ?side1 ?side2 A92.out).mono ?_); (case side1 => repeat (first | exact (Kd.R_reads' HO_262001.out).2.2 | (with_reducible refine Kd.C_alloc ?_ _) | (with_reducible refine Kd.C_drewN ?_ _) | (with_reducible refine Kd.C_drew ?_))); (case side2 => exact (Kd.R_reads' HO_262001.out).2.1); rintro e w116 ⟨rfl, hb⟩; have n0_ := Aside0.mk (Kd.R_below (by (with_reducible repeat (first | apply Kd.R_alloc | apply Kd.R_drewN | apply Kd.R_drew)); exact HO_262001.out) hb); have n1_ := Aside0.mk (blk_below (g := gb261) (o := .cells #[.int .i64 t257, .slice Ao19 t258.length co19] 24 (0, 0)) (by (with_reducible repeat (first | refine blk_drewN ?_ _ | refine blk_drew ?_ | refine blk_alloc ?_ _)); exact BK261.out) hb); have n2_ := Aside0.mk (below_step (by repeat (first | (with_reducible first | exact HB.out | apply below_alloc | apply pw_below_drewN | apply below_drew1 | refine below_set ?_ GE261.out) | exact HB.out)) hb); clear HO_262001; clear BK261; clear HB; have HO_262001 := n0_; have BK261 := n1_; have HB := n2_; clear n0_ n1_ n2_; (try clear hb); (try clear hb2); (try clear hk); (try clear hi); have hcz117_0 : w116.cell? ⟨gb261, 0, none⟩ = some (.int .i64 t257) := (blk_cell BK261.out 0).trans rfl; have hcz117_1 : w116.cell? ⟨gb261, 1, none⟩ = some (.slice Ao19 t258.length co19) := (blk_cell BK261.out 1).trans rfl; have hfz117_0 := blk_frozen BK261.out 0; have hfz117_1 := blk_frozen BK261.out 1) | (go_at_call 26; (with_reducible refine (clock_After.calls kj13 t257 _ _ t258 t263 (wrap64 ((wrap64 (t262 + t271)) - 100)) false _ ?side1 ?side2 A101.out).mono ?_); (case side1 => repeat (first | exact (Kd.R_reads' HO_262001.out).2.2 | (with_reducible refine Kd.C_alloc ?_ _) | (with_reducible refine Kd.C_drewN ?_ _) | (with_reducible refine Kd.C_drew ?_))); (case side2 => exact (Kd.R_reads' HO_262001.out).2.1); rintro e w118 ⟨rfl, hb⟩; have n0_ := Aside0.mk (Kd.R_below (by (with_reducible repeat (first | apply Kd.R_alloc | apply Kd.R_drewN | apply Kd.R_drew)); exact HO_262001.out) hb); have n1_ := Aside0.mk (blk_below (g := gb261) (o := .cells #[.int .i64 t257, .slice Ao19 t258.length co19] 24 (0, 0)) (by (with_reducible repeat (first | refine blk_drewN ?_ _ | refine blk_drew ?_ | refine blk_alloc ?_ _)); exact BK261.out) hb); have n2_ := Aside0.mk (below_step (by repeat (first | (with_reducible first | exact HB.out | apply below_alloc | apply pw_below_drewN | apply below_drew1 | refine below_set ?_ GE261.out) | exact HB.out)) hb); clear HO_262001; clear BK261; clear HB; have HO_262001 := n0_; have BK261 := n1_; have HB := n2_; clear n0_ n1_ n2_; (try clear hb); (try clear hb2); (try clear hk); (try clear hi)))
                        go_meet
                        case rel => exact ⟨_, (false), (by first | rfl | (simp; done) | (simp [*]; done)), H', ⟨by have := HJ13.out; first | omega | exact Nat.le_refl _⟩, ⟨by (with_reducible repeat (first | apply Kd.R_alloc | apply Kd.R_drewN | apply Kd.R_drew)); exact HO_262001.out⟩, ⟨by (with_reducible repeat (first | refine blk_drewN ?_ _ | refine blk_drew ?_ | refine blk_alloc ?_ _)); exact BK261.out⟩, ⟨by repeat (first | (with_reducible first | exact HB.out | apply below_alloc | apply pw_below_drewN | apply below_drew1 | refine below_set ?_ GE261.out) | exact HB.out)⟩⟩
                  · replace c93 := Bool.eq_false_iff.mpr c93
                    subst c93
                    have H1 : ((clock_After.f kj13 t257 t258 t263 (wrap64 ((wrap64 (t262 + t271)) - 100))).bind fun t279 => (if t279 = true then (dialtonelaw05_ClockSound.j1 kj13 t262 t263 t264 t265 t267 t268 (decide (t262 ≤ (wrap64 ((wrap64 (t262 + t271)) - 100))))) else (dialtonelaw05_ClockSound.j1 kj13 t262 t263 t264 t265 t267 t268 false))) = some r := by rw [if_neg (show ¬ (false = true) by decide)] at H; exact H
                    clear H
                    have H := H1
                    clear H1
                    replace H := Option.bind_eq_some_iff.mp H
                    obtain ⟨t279, A1190, H⟩ := H
                    replace H : (if t279 = true then (dialtonelaw05_ClockSound.j1 kj13 t262 t263 t264 t265 t267 t268 (decide (t262 ≤ (wrap64 ((wrap64 (t262 + t271)) - 100))))) else (dialtonelaw05_ClockSound.j1 kj13 t262 t263 t264 t265 t267 t268 false)) = some r := H
                    have A119 := Aside0.mk A1190
                    clear A1190
                    by_cases c120 : t279 = true
                    · subst c120
                      have H1 : (dialtonelaw05_ClockSound.j1 kj13 t262 t263 t264 t265 t267 t268 (decide (t262 ≤ (wrap64 ((wrap64 (t262 + t271)) - 100))))) = some r := by rw [if_pos rfl] at H; exact H
                      clear H
                      have H := H1
                      clear H1
                      have H' := Aside0.mk H
                      clear H
                      have hcz121_0 : w34.cell? ⟨gb261, 0, none⟩ = some (.int .i64 t257) := (blk_cell BK261.out 0).trans rfl
                      have hcz121_1 : w34.cell? ⟨gb261, 1, none⟩ = some (.slice Ao19 t258.length co19) := (blk_cell BK261.out 1).trans rfl
                      have hfz121_0 := blk_frozen BK261.out 0
                      have hfz121_1 := blk_frozen BK261.out 1
                      go_wp2_with (first | ((with_reducible refine gate_callee (f := 24) rfl ?_); refine goesL_ (some 71) rfl rfl Try.func24 (by kernel_rfl) rfl #[.agg #[.int .i64 t257, .slice Ao19 t258.length co19], .int .i64 t263, .int .i64 a5] rfl (by (try simp only [List.map_toArray, List.map_cons, List.map_nil]); first | done | rfl | (simp only [List.length_drop, List.length_take]; rfl)) ?_; (with_reducible refine (clock_Before.calls kj13 t257 _ _ t258 t263 a5 true _ ?side1 ?side2 A35.out).mono ?_); (case side1 => repeat (first | exact (Kd.R_reads' HO_262001.out).2.2 | (with_reducible refine Kd.C_alloc ?_ _) | (with_reducible refine Kd.C_drewN ?_ _) | (with_reducible refine Kd.C_drew ?_))); (case side2 => exact (Kd.R_reads' HO_262001.out).2.1); rintro e w122 ⟨rfl, hb⟩; refine ⟨_, rfl, ?_⟩; have n0_ := Aside0.mk (Kd.R_below (by (with_reducible repeat (first | apply Kd.R_alloc | apply Kd.R_drewN | apply Kd.R_drew)); exact HO_262001.out) hb); have n1_ := Aside0.mk (blk_below (g := gb261) (o := .cells #[.int .i64 t257, .slice Ao19 t258.length co19] 24 (0, 0)) (by (with_reducible repeat (first | refine blk_drewN ?_ _ | refine blk_drew ?_ | refine blk_alloc ?_ _)); exact BK261.out) hb); have n2_ := Aside0.mk (below_step (by repeat (first | (with_reducible first | exact HB.out | apply below_alloc | apply pw_below_drewN | apply below_drew1 | refine below_set ?_ GE261.out) | exact HB.out)) hb); clear HO_262001; clear BK261; clear HB; have HO_262001 := n0_; have BK261 := n1_; have HB := n2_; clear n0_ n1_ n2_; (try clear hb); (try clear hb2); (try clear hk); (try clear hi); have hcz123_0 : w122.cell? ⟨gb261, 0, none⟩ = some (.int .i64 t257) := (blk_cell BK261.out 0).trans rfl; have hcz123_1 : w122.cell? ⟨gb261, 1, none⟩ = some (.slice Ao19 t258.length co19) := (blk_cell BK261.out 1).trans rfl; have hfz123_0 := blk_frozen BK261.out 0; have hfz123_1 := blk_frozen BK261.out 1) | (go_at_call 26; (with_reducible refine (clock_After.calls kj13 t257 _ _ t258 t263 a5 false _ ?side1 ?side2 A40.out).mono ?_); (case side1 => repeat (first | exact (Kd.R_reads' HO_262001.out).2.2 | (with_reducible refine Kd.C_alloc ?_ _) | (with_reducible refine Kd.C_drewN ?_ _) | (with_reducible refine Kd.C_drew ?_))); (case side2 => exact (Kd.R_reads' HO_262001.out).2.1); rintro e w124 ⟨rfl, hb⟩; have n0_ := Aside0.mk (Kd.R_below (by (with_reducible repeat (first | apply Kd.R_alloc | apply Kd.R_drewN | apply Kd.R_drew)); exact HO_262001.out) hb); have n1_ := Aside0.mk (blk_below (g := gb261) (o := .cells #[.int .i64 t257, .slice Ao19 t258.length co19] 24 (0, 0)) (by (with_reducible repeat (first | refine blk_drewN ?_ _ | refine blk_drew ?_ | refine blk_alloc ?_ _)); exact BK261.out) hb); have n2_ := Aside0.mk (below_step (by repeat (first | (with_reducible first | exact HB.out | apply below_alloc | apply pw_below_drewN | apply below_drew1 | refine below_set ?_ GE261.out) | exact HB.out)) hb); clear HO_262001; clear BK261; clear HB; have HO_262001 := n0_; have BK261 := n1_; have HB := n2_; clear n0_ n1_ n2_; (try clear hb); (try clear hb2); (try clear hk); (try clear hi); have hcz125_0 : w124.cell? ⟨gb261, 0, none⟩ = some (.int .i64 t257) := (blk_cell BK261.out 0).trans rfl; have hcz125_1 : w124.cell? ⟨gb261, 1, none⟩ = some (.slice Ao19 t258.length co19) := (blk_cell BK261.out 1).trans rfl; have hfz125_0 := blk_frozen BK261.out 0; have hfz125_1 := blk_frozen BK261.out 1) | (go_at_call 24; (with_reducible refine (clock_Before.calls kj13 t257 _ _ t258 t263 (wrap64 ((wrap64 (t262 + t271)) - 100)) false _ ?side1 ?side2 A92.out).mono ?_); (case side1 => repeat (first | exact (Kd.R_reads' HO_262001.out).2.2 | (with_reducible refine Kd.C_alloc ?_ _) | (with_reducible refine Kd.C_drewN ?_ _) | (with_reducible refine Kd.C_drew ?_))); (case side2 => exact (Kd.R_reads' HO_262001.out).2.1); rintro e w126 ⟨rfl, hb⟩; have n0_ := Aside0.mk (Kd.R_below (by (with_reducible repeat (first | apply Kd.R_alloc | apply Kd.R_drewN | apply Kd.R_drew)); exact HO_262001.out) hb); have n1_ := Aside0.mk (blk_below (g := gb261) (o := .cells #[.int .i64 t257, .slice Ao19 t258.length co19] 24 (0, 0)) (by (with_reducible repeat (first | refine blk_drewN ?_ _ | refine blk_drew ?_ | refine blk_alloc ?_ _)); exact BK261.out) hb); have n2_ := Aside0.mk (below_step (by repeat (first | (with_reducible first | exact HB.out | apply below_alloc | apply pw_below_drewN | apply below_drew1 | refine below_set ?_ GE261.out) | exact HB.out)) hb); clear HO_262001; clear BK261; clear HB; have HO_262001 := n0_; have BK261 := n1_; have HB := n2_; clear n0_ n1_ n2_; (try clear hb); (try clear hb2); (try clear hk); (try clear hi); have hcz127_0 : w126.cell? ⟨gb261, 0, none⟩ = some (.int .i64 t257) := (blk_cell BK261.out 0).trans rfl; have hcz127_1 : w126.cell? ⟨gb261, 1, none⟩ = some (.slice Ao19 t258.length co19) := (blk_cell BK261.out 1).trans rfl; have hfz127_0 := blk_frozen BK261.out 0; have hfz127_1 := blk_frozen BK261.out 1) | (go_at_call 26; (with_reducible refine (clock_After.calls kj13 t257 _ _ t258 t263 (wrap64 ((wrap64 (t262 + t271)) - 100)) true _ ?side1 ?side2 A119.out).mono ?_); (case side1 => repeat (first | exact (Kd.R_reads' HO_262001.out).2.2 | (with_reducible refine Kd.C_alloc ?_ _) | (with_reducible refine Kd.C_drewN ?_ _) | (with_reducible refine Kd.C_drew ?_))); (case side2 => exact (Kd.R_reads' HO_262001.out).2.1); rintro e w128 ⟨rfl, hb⟩; have n0_ := Aside0.mk (Kd.R_below (by (with_reducible repeat (first | apply Kd.R_alloc | apply Kd.R_drewN | apply Kd.R_drew)); exact HO_262001.out) hb); have n1_ := Aside0.mk (blk_below (g := gb261) (o := .cells #[.int .i64 t257, .slice Ao19 t258.length co19] 24 (0, 0)) (by (with_reducible repeat (first | refine blk_drewN ?_ _ | refine blk_drew ?_ | refine blk_alloc ?_ _)); exact BK261.out) hb); have n2_ := Aside0.mk (below_step (by repeat (first | (with_reducible first | exact HB.out | apply below_alloc | apply pw_below_drewN | apply below_drew1 | refine below_set ?_ GE261.out) | exact HB.out)) hb); clear HO_262001; clear BK261; clear HB; have HO_262001 := n0_; have BK261 := n1_; have HB := n2_; clear n0_ n1_ n2_; (try clear hb); (try clear hb2); (try clear hk); (try clear hi)))
                      go_meet
                      case rel => exact ⟨_, (decide (t262 ≤ (wrap64 ((wrap64 (t262 + t271)) - 100)))), (by first | rfl | (simp; done) | (simp [*]; done)), H', ⟨by have := HJ13.out; first | omega | exact Nat.le_refl _⟩, ⟨by (with_reducible repeat (first | apply Kd.R_alloc | apply Kd.R_drewN | apply Kd.R_drew)); exact HO_262001.out⟩, ⟨by (with_reducible repeat (first | refine blk_drewN ?_ _ | refine blk_drew ?_ | refine blk_alloc ?_ _)); exact BK261.out⟩, ⟨by repeat (first | (with_reducible first | exact HB.out | apply below_alloc | apply pw_below_drewN | apply below_drew1 | refine below_set ?_ GE261.out) | exact HB.out)⟩⟩
                    · replace c120 := Bool.eq_false_iff.mpr c120
                      subst c120
                      have H1 : (dialtonelaw05_ClockSound.j1 kj13 t262 t263 t264 t265 t267 t268 false) = some r := by rw [if_neg (show ¬ (false = true) by decide)] at H; exact H
                      clear H
                      have H := H1
                      clear H1
                      have H' := Aside0.mk H
                      clear H
                      have hcz129_0 : w34.cell? ⟨gb261, 0, none⟩ = some (.int .i64 t257) := (blk_cell BK261.out 0).trans rfl
                      have hcz129_1 : w34.cell? ⟨gb261, 1, none⟩ = some (.slice Ao19 t258.length co19) := (blk_cell BK261.out 1).trans rfl
                      have hfz129_0 := blk_frozen BK261.out 0
                      have hfz129_1 := blk_frozen BK261.out 1
                      go_wp2_with (first | ((with_reducible refine gate_callee (f := 24) rfl ?_); refine goesL_ (some 71) rfl rfl Try.func24 (by kernel_rfl) rfl #[.agg #[.int .i64 t257, .slice Ao19 t258.length co19], .int .i64 t263, .int .i64 a5] rfl (by (try simp only [List.map_toArray, List.map_cons, List.map_nil]); first | done | rfl | (simp only [List.length_drop, List.length_take]; rfl)) ?_; (with_reducible refine (clock_Before.calls kj13 t257 _ _ t258 t263 a5 true _ ?side1 ?side2 A35.out).mono ?_); (case side1 => repeat (first | exact (Kd.R_reads' HO_262001.out).2.2 | (with_reducible refine Kd.C_alloc ?_ _) | (with_reducible refine Kd.C_drewN ?_ _) | (with_reducible refine Kd.C_drew ?_))); (case side2 => exact (Kd.R_reads' HO_262001.out).2.1); rintro e w130 ⟨rfl, hb⟩; refine ⟨_, rfl, ?_⟩; have n0_ := Aside0.mk (Kd.R_below (by (with_reducible repeat (first | apply Kd.R_alloc | apply Kd.R_drewN | apply Kd.R_drew)); exact HO_262001.out) hb); have n1_ := Aside0.mk (blk_below (g := gb261) (o := .cells #[.int .i64 t257, .slice Ao19 t258.length co19] 24 (0, 0)) (by (with_reducible repeat (first | refine blk_drewN ?_ _ | refine blk_drew ?_ | refine blk_alloc ?_ _)); exact BK261.out) hb); have n2_ := Aside0.mk (below_step (by repeat (first | (with_reducible first | exact HB.out | apply below_alloc | apply pw_below_drewN | apply below_drew1 | refine below_set ?_ GE261.out) | exact HB.out)) hb); clear HO_262001; clear BK261; clear HB; have HO_262001 := n0_; have BK261 := n1_; have HB := n2_; clear n0_ n1_ n2_; (try clear hb); (try clear hb2); (try clear hk); (try clear hi); have hcz131_0 : w130.cell? ⟨gb261, 0, none⟩ = some (.int .i64 t257) := (blk_cell BK261.out 0).trans rfl; have hcz131_1 : w130.cell? ⟨gb261, 1, none⟩ = some (.slice Ao19 t258.length co19) := (blk_cell BK261.out 1).trans rfl; have hfz131_0 := blk_frozen BK261.out 0; have hfz131_1 := blk_frozen BK261.out 1) | (go_at_call 26; (with_reducible refine (clock_After.calls kj13 t257 _ _ t258 t263 a5 false _ ?side1 ?side2 A40.out).mono ?_); (case side1 => repeat (first | exact (Kd.R_reads' HO_262001.out).2.2 | (with_reducible refine Kd.C_alloc ?_ _) | (with_reducible refine Kd.C_drewN ?_ _) | (with_reducible refine Kd.C_drew ?_))); (case side2 => exact (Kd.R_reads' HO_262001.out).2.1); rintro e w132 ⟨rfl, hb⟩; have n0_ := Aside0.mk (Kd.R_below (by (with_reducible repeat (first | apply Kd.R_alloc | apply Kd.R_drewN | apply Kd.R_drew)); exact HO_262001.out) hb); have n1_ := Aside0.mk (blk_below (g := gb261) (o := .cells #[.int .i64 t257, .slice Ao19 t258.length co19] 24 (0, 0)) (by (with_reducible repeat (first | refine blk_drewN ?_ _ | refine blk_drew ?_ | refine blk_alloc ?_ _)); exact BK261.out) hb); have n2_ := Aside0.mk (below_step (by repeat (first | (with_reducible first | exact HB.out | apply below_alloc | apply pw_below_drewN | apply below_drew1 | refine below_set ?_ GE261.out) | exact HB.out)) hb); clear HO_262001; clear BK261; clear HB; have HO_262001 := n0_; have BK261 := n1_; have HB := n2_; clear n0_ n1_ n2_; (try clear hb); (try clear hb2); (try clear hk); (try clear hi); have hcz133_0 : w132.cell? ⟨gb261, 0, none⟩ = some (.int .i64 t257) := (blk_cell BK261.out 0).trans rfl; have hcz133_1 : w132.cell? ⟨gb261, 1, none⟩ = some (.slice Ao19 t258.length co19) := (blk_cell BK261.out 1).trans rfl; have hfz133_0 := blk_frozen BK261.out 0; have hfz133_1 := blk_frozen BK261.out 1) | (go_at_call 24; (with_reducible refine (clock_Before.calls kj13 t257 _ _ t258 t263 (wrap64 ((wrap64 (t262 + t271)) - 100)) false _ ?side1 ?side2 A92.out).mono ?_); (case side1 => repeat (first | exact (Kd.R_reads' HO_262001.out).2.2 | (with_reducible refine Kd.C_alloc ?_ _) | (with_reducible refine Kd.C_drewN ?_ _) | (with_reducible refine Kd.C_drew ?_))); (case side2 => exact (Kd.R_reads' HO_262001.out).2.1); rintro e w134 ⟨rfl, hb⟩; have n0_ := Aside0.mk (Kd.R_below (by (with_reducible repeat (first | apply Kd.R_alloc | apply Kd.R_drewN | apply Kd.R_drew)); exact HO_262001.out) hb); have n1_ := Aside0.mk (blk_below (g := gb261) (o := .cells #[.int .i64 t257, .slice Ao19 t258.length co19] 24 (0, 0)) (by (with_reducible repeat (first | refine blk_drewN ?_ _ | refine blk_drew ?_ | refine blk_alloc ?_ _)); exact BK261.out) hb); have n2_ := Aside0.mk (below_step (by repeat (first | (with_reducible first | exact HB.out | apply below_alloc | apply pw_below_drewN | apply below_drew1 | refine below_set ?_ GE261.out) | exact HB.out)) hb); clear HO_262001; clear BK261; clear HB; have HO_262001 := n0_; have BK261 := n1_; have HB := n2_; clear n0_ n1_ n2_; (try clear hb); (try clear hb2); (try clear hk); (try clear hi); have hcz135_0 : w134.cell? ⟨gb261, 0, none⟩ = some (.int .i64 t257) := (blk_cell BK261.out 0).trans rfl; have hcz135_1 : w134.cell? ⟨gb261, 1, none⟩ = some (.slice Ao19 t258.length co19) := (blk_cell BK261.out 1).trans rfl; have hfz135_0 := blk_frozen BK261.out 0; have hfz135_1 := blk_frozen BK261.out 1) | (go_at_call 26; (with_reducible refine (clock_After.calls kj13 t257 _ _ t258 t263 (wrap64 ((wrap64 (t262 + t271)) - 100)) false _ ?side1 ?side2 A119.out).mono ?_); (case side1 => repeat (first | exact (Kd.R_reads' HO_262001.out).2.2 | (with_reducible refine Kd.C_alloc ?_ _) | (with_reducible refine Kd.C_drewN ?_ _) | (with_reducible refine Kd.C_drew ?_))); (case side2 => exact (Kd.R_reads' HO_262001.out).2.1); rintro e w136 ⟨rfl, hb⟩; have n0_ := Aside0.mk (Kd.R_below (by (with_reducible repeat (first | apply Kd.R_alloc | apply Kd.R_drewN | apply Kd.R_drew)); exact HO_262001.out) hb); have n1_ := Aside0.mk (blk_below (g := gb261) (o := .cells #[.int .i64 t257, .slice Ao19 t258.length co19] 24 (0, 0)) (by (with_reducible repeat (first | refine blk_drewN ?_ _ | refine blk_drew ?_ | refine blk_alloc ?_ _)); exact BK261.out) hb); have n2_ := Aside0.mk (below_step (by repeat (first | (with_reducible first | exact HB.out | apply below_alloc | apply pw_below_drewN | apply below_drew1 | refine below_set ?_ GE261.out) | exact HB.out)) hb); clear HO_262001; clear BK261; clear HB; have HO_262001 := n0_; have BK261 := n1_; have HB := n2_; clear n0_ n1_ n2_; (try clear hb); (try clear hb2); (try clear hk); (try clear hi)))
                      go_meet
                      case rel => exact ⟨_, (false), (by first | rfl | (simp; done) | (simp [*]; done)), H', ⟨by have := HJ13.out; first | omega | exact Nat.le_refl _⟩, ⟨by (with_reducible repeat (first | apply Kd.R_alloc | apply Kd.R_drewN | apply Kd.R_drew)); exact HO_262001.out⟩, ⟨by (with_reducible repeat (first | refine blk_drewN ?_ _ | refine blk_drew ?_ | refine blk_alloc ?_ _)); exact BK261.out⟩, ⟨by repeat (first | (with_reducible first | exact HB.out | apply below_alloc | apply pw_below_drewN | apply below_drew1 | refine below_set ?_ GE261.out) | exact HB.out)⟩⟩
            · replace c36 := Bool.eq_false_iff.mpr c36
              subst c36
              have H1 : ((clock_After.f kj13 t257 t258 t263 a5).bind fun t280 => (if t280 = true then (if t262 ≤ a5 then (dialtonelaw05_ClockSound.j1 kj13 t262 t263 t264 t265 t267 t268 true) else ((clock_Before.f kj13 t257 t258 t263 (wrap64 ((wrap64 (t262 + t271)) - 100))).bind fun t281 => (if t281 = true then (if t262 ≥ (wrap64 ((wrap64 (t262 + t271)) - 100)) then (dialtonelaw05_ClockSound.j1 kj13 t262 t263 t264 t265 t267 t268 true) else ((clock_After.f kj13 t257 t258 t263 (wrap64 ((wrap64 (t262 + t271)) - 100))).bind fun t282 => (if t282 = true then (dialtonelaw05_ClockSound.j1 kj13 t262 t263 t264 t265 t267 t268 (decide (t262 ≤ (wrap64 ((wrap64 (t262 + t271)) - 100))))) else (dialtonelaw05_ClockSound.j1 kj13 t262 t263 t264 t265 t267 t268 false)))) else ((clock_After.f kj13 t257 t258 t263 (wrap64 ((wrap64 (t262 + t271)) - 100))).bind fun t283 => (if t283 = true then (dialtonelaw05_ClockSound.j1 kj13 t262 t263 t264 t265 t267 t268 (decide (t262 ≤ (wrap64 ((wrap64 (t262 + t271)) - 100))))) else (dialtonelaw05_ClockSound.j1 kj13 t262 t263 t264 t265 t267 t268 false)))))) else ((clock_Before.f kj13 t257 t258 t263 (wrap64 ((wrap64 (t262 + t271)) - 100))).bind fun t284 => (if t284 = true then (if t262 ≥ (wrap64 ((wrap64 (t262 + t271)) - 100)) then (dialtonelaw05_ClockSound.j1 kj13 t262 t263 t264 t265 t267 t268 true) else ((clock_After.f kj13 t257 t258 t263 (wrap64 ((wrap64 (t262 + t271)) - 100))).bind fun t285 => (if t285 = true then (dialtonelaw05_ClockSound.j1 kj13 t262 t263 t264 t265 t267 t268 (decide (t262 ≤ (wrap64 ((wrap64 (t262 + t271)) - 100))))) else (dialtonelaw05_ClockSound.j1 kj13 t262 t263 t264 t265 t267 t268 false)))) else ((clock_After.f kj13 t257 t258 t263 (wrap64 ((wrap64 (t262 + t271)) - 100))).bind fun t286 => (if t286 = true then (dialtonelaw05_ClockSound.j1 kj13 t262 t263 t264 t265 t267 t268 (decide (t262 ≤ (wrap64 ((wrap64 (t262 + t271)) - 100))))) else (dialtonelaw05_ClockSound.j1 kj13 t262 t263 t264 t265 t267 t268 false))))))) = some r := by rw [if_neg (show ¬ (false = true) by decide)] at H; exact H
              clear H
              have H := H1
              clear H1
              replace H := Option.bind_eq_some_iff.mp H
              obtain ⟨t280, A1370, H⟩ := H
              replace H : (if t280 = true then (if t262 ≤ a5 then (dialtonelaw05_ClockSound.j1 kj13 t262 t263 t264 t265 t267 t268 true) else ((clock_Before.f kj13 t257 t258 t263 (wrap64 ((wrap64 (t262 + t271)) - 100))).bind fun t281 => (if t281 = true then (if t262 ≥ (wrap64 ((wrap64 (t262 + t271)) - 100)) then (dialtonelaw05_ClockSound.j1 kj13 t262 t263 t264 t265 t267 t268 true) else ((clock_After.f kj13 t257 t258 t263 (wrap64 ((wrap64 (t262 + t271)) - 100))).bind fun t282 => (if t282 = true then (dialtonelaw05_ClockSound.j1 kj13 t262 t263 t264 t265 t267 t268 (decide (t262 ≤ (wrap64 ((wrap64 (t262 + t271)) - 100))))) else (dialtonelaw05_ClockSound.j1 kj13 t262 t263 t264 t265 t267 t268 false)))) else ((clock_After.f kj13 t257 t258 t263 (wrap64 ((wrap64 (t262 + t271)) - 100))).bind fun t283 => (if t283 = true then (dialtonelaw05_ClockSound.j1 kj13 t262 t263 t264 t265 t267 t268 (decide (t262 ≤ (wrap64 ((wrap64 (t262 + t271)) - 100))))) else (dialtonelaw05_ClockSound.j1 kj13 t262 t263 t264 t265 t267 t268 false)))))) else ((clock_Before.f kj13 t257 t258 t263 (wrap64 ((wrap64 (t262 + t271)) - 100))).bind fun t284 => (if t284 = true then (if t262 ≥ (wrap64 ((wrap64 (t262 + t271)) - 100)) then (dialtonelaw05_ClockSound.j1 kj13 t262 t263 t264 t265 t267 t268 true) else ((clock_After.f kj13 t257 t258 t263 (wrap64 ((wrap64 (t262 + t271)) - 100))).bind fun t285 => (if t285 = true then (dialtonelaw05_ClockSound.j1 kj13 t262 t263 t264 t265 t267 t268 (decide (t262 ≤ (wrap64 ((wrap64 (t262 + t271)) - 100))))) else (dialtonelaw05_ClockSound.j1 kj13 t262 t263 t264 t265 t267 t268 false)))) else ((clock_After.f kj13 t257 t258 t263 (wrap64 ((wrap64 (t262 + t271)) - 100))).bind fun t286 => (if t286 = true then (dialtonelaw05_ClockSound.j1 kj13 t262 t263 t264 t265 t267 t268 (decide (t262 ≤ (wrap64 ((wrap64 (t262 + t271)) - 100))))) else (dialtonelaw05_ClockSound.j1 kj13 t262 t263 t264 t265 t267 t268 false)))))) = some r := H
              have A137 := Aside0.mk A1370
              clear A1370
              by_cases c138 : t280 = true
              · subst c138
                have H1 : (if t262 ≤ a5 then (dialtonelaw05_ClockSound.j1 kj13 t262 t263 t264 t265 t267 t268 true) else ((clock_Before.f kj13 t257 t258 t263 (wrap64 ((wrap64 (t262 + t271)) - 100))).bind fun t281 => (if t281 = true then (if t262 ≥ (wrap64 ((wrap64 (t262 + t271)) - 100)) then (dialtonelaw05_ClockSound.j1 kj13 t262 t263 t264 t265 t267 t268 true) else ((clock_After.f kj13 t257 t258 t263 (wrap64 ((wrap64 (t262 + t271)) - 100))).bind fun t282 => (if t282 = true then (dialtonelaw05_ClockSound.j1 kj13 t262 t263 t264 t265 t267 t268 (decide (t262 ≤ (wrap64 ((wrap64 (t262 + t271)) - 100))))) else (dialtonelaw05_ClockSound.j1 kj13 t262 t263 t264 t265 t267 t268 false)))) else ((clock_After.f kj13 t257 t258 t263 (wrap64 ((wrap64 (t262 + t271)) - 100))).bind fun t283 => (if t283 = true then (dialtonelaw05_ClockSound.j1 kj13 t262 t263 t264 t265 t267 t268 (decide (t262 ≤ (wrap64 ((wrap64 (t262 + t271)) - 100))))) else (dialtonelaw05_ClockSound.j1 kj13 t262 t263 t264 t265 t267 t268 false)))))) = some r := by rw [if_pos rfl] at H; exact H
                clear H
                have H := H1
                clear H1
                by_cases c139 : t262 ≤ a5
                · rw [if_pos c139] at H
                  have c139b0 : decide (t262 ≤ a5) = true := decide_eq_true c139
                  clear c139
                  have H' := Aside0.mk H
                  clear H
                  have hcz140_0 : w34.cell? ⟨gb261, 0, none⟩ = some (.int .i64 t257) := (blk_cell BK261.out 0).trans rfl
                  have hcz140_1 : w34.cell? ⟨gb261, 1, none⟩ = some (.slice Ao19 t258.length co19) := (blk_cell BK261.out 1).trans rfl
                  have hfz140_0 := blk_frozen BK261.out 0
                  have hfz140_1 := blk_frozen BK261.out 1
                  go_wp2_with (first | ((with_reducible refine gate_callee (f := 24) rfl ?_); refine goesL_ (some 71) rfl rfl Try.func24 (by kernel_rfl) rfl #[.agg #[.int .i64 t257, .slice Ao19 t258.length co19], .int .i64 t263, .int .i64 a5] rfl (by (try simp only [List.map_toArray, List.map_cons, List.map_nil]); first | done | rfl | (simp only [List.length_drop, List.length_take]; rfl)) ?_; (with_reducible refine (clock_Before.calls kj13 t257 _ _ t258 t263 a5 false _ ?side1 ?side2 A35.out).mono ?_); (case side1 => repeat (first | exact (Kd.R_reads' HO_262001.out).2.2 | (with_reducible refine Kd.C_alloc ?_ _) | (with_reducible refine Kd.C_drewN ?_ _) | (with_reducible refine Kd.C_drew ?_))); (case side2 => exact (Kd.R_reads' HO_262001.out).2.1); rintro e w141 ⟨rfl, hb⟩; refine ⟨_, rfl, ?_⟩; have n0_ := Aside0.mk (Kd.R_below (by (with_reducible repeat (first | apply Kd.R_alloc | apply Kd.R_drewN | apply Kd.R_drew)); exact HO_262001.out) hb); have n1_ := Aside0.mk (blk_below (g := gb261) (o := .cells #[.int .i64 t257, .slice Ao19 t258.length co19] 24 (0, 0)) (by (with_reducible repeat (first | refine blk_drewN ?_ _ | refine blk_drew ?_ | refine blk_alloc ?_ _)); exact BK261.out) hb); have n2_ := Aside0.mk (below_step (by repeat (first | (with_reducible first | exact HB.out | apply below_alloc | apply pw_below_drewN | apply below_drew1 | refine below_set ?_ GE261.out) | exact HB.out)) hb); clear HO_262001; clear BK261; clear HB; have HO_262001 := n0_; have BK261 := n1_; have HB := n2_; clear n0_ n1_ n2_; (try clear hb); (try clear hb2); (try clear hk); (try clear hi); have hcz142_0 : w141.cell? ⟨gb261, 0, none⟩ = some (.int .i64 t257) := (blk_cell BK261.out 0).trans rfl; have hcz142_1 : w141.cell? ⟨gb261, 1, none⟩ = some (.slice Ao19 t258.length co19) := (blk_cell BK261.out 1).trans rfl; have hfz142_0 := blk_frozen BK261.out 0; have hfz142_1 := blk_frozen BK261.out 1) | (go_at_call 26; (with_reducible refine (clock_After.calls kj13 t257 _ _ t258 t263 a5 true _ ?side1 ?side2 A137.out).mono ?_); (case side1 => repeat (first | exact (Kd.R_reads' HO_262001.out).2.2 | (with_reducible refine Kd.C_alloc ?_ _) | (with_reducible refine Kd.C_drewN ?_ _) | (with_reducible refine Kd.C_drew ?_))); (case side2 => exact (Kd.R_reads' HO_262001.out).2.1); rintro e w143 ⟨rfl, hb⟩; have n0_ := Aside0.mk (Kd.R_below (by (with_reducible repeat (first | apply Kd.R_alloc | apply Kd.R_drewN | apply Kd.R_drew)); exact HO_262001.out) hb); have n1_ := Aside0.mk (blk_below (g := gb261) (o := .cells #[.int .i64 t257, .slice Ao19 t258.length co19] 24 (0, 0)) (by (with_reducible repeat (first | refine blk_drewN ?_ _ | refine blk_drew ?_ | refine blk_alloc ?_ _)); exact BK261.out) hb); have n2_ := Aside0.mk (below_step (by repeat (first | (with_reducible first | exact HB.out | apply below_alloc | apply pw_below_drewN | apply below_drew1 | refine below_set ?_ GE261.out) | exact HB.out)) hb); clear HO_262001; clear BK261; clear HB; have HO_262001 := n0_; have BK261 := n1_; have HB := n2_; clear n0_ n1_ n2_; (try clear hb); (try clear hb2); (try clear hk); (try clear hi)))
                  go_meet
                  case rel => exact ⟨_, (true), (by first | rfl | (simp; done) | (simp [*]; done)), H', ⟨by have := HJ13.out; first | omega | exact Nat.le_refl _⟩, ⟨by (with_reducible repeat (first | apply Kd.R_alloc | apply Kd.R_drewN | apply Kd.R_drew)); exact HO_262001.out⟩, ⟨by (with_reducible repeat (first | refine blk_drewN ?_ _ | refine blk_drew ?_ | refine blk_alloc ?_ _)); exact BK261.out⟩, ⟨by repeat (first | (with_reducible first | exact HB.out | apply below_alloc | apply pw_below_drewN | apply below_drew1 | refine below_set ?_ GE261.out) | exact HB.out)⟩⟩
                · rw [if_neg c139] at H
                  have c139b0 : decide (t262 ≤ a5) = false := decide_eq_false c139
                  clear c139
                  replace H := Option.bind_eq_some_iff.mp H
                  obtain ⟨t281, A1440, H⟩ := H
                  replace H : (if t281 = true then (if t262 ≥ (wrap64 ((wrap64 (t262 + t271)) - 100)) then (dialtonelaw05_ClockSound.j1 kj13 t262 t263 t264 t265 t267 t268 true) else ((clock_After.f kj13 t257 t258 t263 (wrap64 ((wrap64 (t262 + t271)) - 100))).bind fun t282 => (if t282 = true then (dialtonelaw05_ClockSound.j1 kj13 t262 t263 t264 t265 t267 t268 (decide (t262 ≤ (wrap64 ((wrap64 (t262 + t271)) - 100))))) else (dialtonelaw05_ClockSound.j1 kj13 t262 t263 t264 t265 t267 t268 false)))) else ((clock_After.f kj13 t257 t258 t263 (wrap64 ((wrap64 (t262 + t271)) - 100))).bind fun t283 => (if t283 = true then (dialtonelaw05_ClockSound.j1 kj13 t262 t263 t264 t265 t267 t268 (decide (t262 ≤ (wrap64 ((wrap64 (t262 + t271)) - 100))))) else (dialtonelaw05_ClockSound.j1 kj13 t262 t263 t264 t265 t267 t268 false)))) = some r := H
                  have A144 := Aside0.mk A1440
                  clear A1440
                  by_cases c145 : t281 = true
                  · subst c145
                    have H1 : (if t262 ≥ (wrap64 ((wrap64 (t262 + t271)) - 100)) then (dialtonelaw05_ClockSound.j1 kj13 t262 t263 t264 t265 t267 t268 true) else ((clock_After.f kj13 t257 t258 t263 (wrap64 ((wrap64 (t262 + t271)) - 100))).bind fun t282 => (if t282 = true then (dialtonelaw05_ClockSound.j1 kj13 t262 t263 t264 t265 t267 t268 (decide (t262 ≤ (wrap64 ((wrap64 (t262 + t271)) - 100))))) else (dialtonelaw05_ClockSound.j1 kj13 t262 t263 t264 t265 t267 t268 false)))) = some r := by rw [if_pos rfl] at H; exact H
                    clear H
                    have H := H1
                    clear H1
                    by_cases c146 : t262 ≥ (wrap64 ((wrap64 (t262 + t271)) - 100))
                    · rw [if_pos c146] at H
                      have c146b0 : decide ((wrap64 ((wrap64 (t262 + t271)) - 100)) ≤ t262) = true := decide_eq_true c146
                      clear c146
                      have H' := Aside0.mk H
                      clear H
                      have hcz147_0 : w34.cell? ⟨gb261, 0, none⟩ = some (.int .i64 t257) := (blk_cell BK261.out 0).trans rfl
                      have hcz147_1 : w34.cell? ⟨gb261, 1, none⟩ = some (.slice Ao19 t258.length co19) := (blk_cell BK261.out 1).trans rfl
                      have hfz147_0 := blk_frozen BK261.out 0
                      have hfz147_1 := blk_frozen BK261.out 1
                      go_wp2_with (first | ((with_reducible refine gate_callee (f := 24) rfl ?_); refine goesL_ (some 71) rfl rfl Try.func24 (by kernel_rfl) rfl #[.agg #[.int .i64 t257, .slice Ao19 t258.length co19], .int .i64 t263, .int .i64 a5] rfl (by (try simp only [List.map_toArray, List.map_cons, List.map_nil]); first | done | rfl | (simp only [List.length_drop, List.length_take]; rfl)) ?_; (with_reducible refine (clock_Before.calls kj13 t257 _ _ t258 t263 a5 false _ ?side1 ?side2 A35.out).mono ?_); (case side1 => repeat (first | exact (Kd.R_reads' HO_262001.out).2.2 | (with_reducible refine Kd.C_alloc ?_ _) | (with_reducible refine Kd.C_drewN ?_ _) | (with_reducible refine Kd.C_drew ?_))); (case side2 => exact (Kd.R_reads' HO_262001.out).2.1); rintro e w148 ⟨rfl, hb⟩; refine ⟨_, rfl, ?_⟩; have n0_ := Aside0.mk (Kd.R_below (by (with_reducible repeat (first | apply Kd.R_alloc | apply Kd.R_drewN | apply Kd.R_drew)); exact HO_262001.out) hb); have n1_ := Aside0.mk (blk_below (g := gb261) (o := .cells #[.int .i64 t257, .slice Ao19 t258.length co19] 24 (0, 0)) (by (with_reducible repeat (first | refine blk_drewN ?_ _ | refine blk_drew ?_ | refine blk_alloc ?_ _)); exact BK261.out) hb); have n2_ := Aside0.mk (below_step (by repeat (first | (with_reducible first | exact HB.out | apply below_alloc | apply pw_below_drewN | apply below_drew1 | refine below_set ?_ GE261.out) | exact HB.out)) hb); clear HO_262001; clear BK261; clear HB; have HO_262001 := n0_; have BK261 := n1_; have HB := n2_; clear n0_ n1_ n2_; (try clear hb); (try clear hb2); (try clear hk); (try clear hi); have hcz149_0 : w148.cell? ⟨gb261, 0, none⟩ = some (.int .i64 t257) := (blk_cell BK261.out 0).trans rfl; have hcz149_1 : w148.cell? ⟨gb261, 1, none⟩ = some (.slice Ao19 t258.length co19) := (blk_cell BK261.out 1).trans rfl; have hfz149_0 := blk_frozen BK261.out 0; have hfz149_1 := blk_frozen BK261.out 1) | (go_at_call 26; (with_reducible refine (clock_After.calls kj13 t257 _ _ t258 t263 a5 true _ ?side1 ?side2 A137.out).mono ?_); (case side1 => repeat (first | exact (Kd.R_reads' HO_262001.out).2.2 | (with_reducible refine Kd.C_alloc ?_ _) | (with_reducible refine Kd.C_drewN ?_ _) | (with_reducible refine Kd.C_drew ?_))); (case side2 => exact (Kd.R_reads' HO_262001.out).2.1); rintro e w150 ⟨rfl, hb⟩; have n0_ := Aside0.mk (Kd.R_below (by (with_reducible repeat (first | apply Kd.R_alloc | apply Kd.R_drewN | apply Kd.R_drew)); exact HO_262001.out) hb); have n1_ := Aside0.mk (blk_below (g := gb261) (o := .cells #[.int .i64 t257, .slice Ao19 t258.length co19] 24 (0, 0)) (by (with_reducible repeat (first | refine blk_drewN ?_ _ | refine blk_drew ?_ | refine blk_alloc ?_ _)); exact BK261.out) hb); have n2_ := Aside0.mk (below_step (by repeat (first | (with_reducible first | exact HB.out | apply below_alloc | apply pw_below_drewN | apply below_drew1 | refine below_set ?_ GE261.out) | exact HB.out)) hb); clear HO_262001; clear BK261; clear HB; have HO_262001 := n0_; have BK261 := n1_; have HB := n2_; clear n0_ n1_ n2_; (try clear hb); (try clear hb2); (try clear hk); (try clear hi); have hcz151_0 : w150.cell? ⟨gb261, 0, none⟩ = some (.int .i64 t257) := (blk_cell BK261.out 0).trans rfl; have hcz151_1 : w150.cell? ⟨gb261, 1, none⟩ = some (.slice Ao19 t258.length co19) := (blk_cell BK261.out 1).trans rfl; have hfz151_0 := blk_frozen BK261.out 0; have hfz151_1 := blk_frozen BK261.out 1) | (go_at_call 24; (with_reducible refine (clock_Before.calls kj13 t257 _ _ t258 t263 (wrap64 ((wrap64 (t262 + t271)) - 100)) true _ ?side1 ?side2 A144.out).mono ?_); (case side1 => repeat (first | exact (Kd.R_reads' HO_262001.out).2.2 | (with_reducible refine Kd.C_alloc ?_ _) | (with_reducible refine Kd.C_drewN ?_ _) | (with_reducible refine Kd.C_drew ?_))); (case side2 => exact (Kd.R_reads' HO_262001.out).2.1); rintro e w152 ⟨rfl, hb⟩; have n0_ := Aside0.mk (Kd.R_below (by (with_reducible repeat (first | apply Kd.R_alloc | apply Kd.R_drewN | apply Kd.R_drew)); exact HO_262001.out) hb); have n1_ := Aside0.mk (blk_below (g := gb261) (o := .cells #[.int .i64 t257, .slice Ao19 t258.length co19] 24 (0, 0)) (by (with_reducible repeat (first | refine blk_drewN ?_ _ | refine blk_drew ?_ | refine blk_alloc ?_ _)); exact BK261.out) hb); have n2_ := Aside0.mk (below_step (by repeat (first | (with_reducible first | exact HB.out | apply below_alloc | apply pw_below_drewN | apply below_drew1 | refine below_set ?_ GE261.out) | exact HB.out)) hb); clear HO_262001; clear BK261; clear HB; have HO_262001 := n0_; have BK261 := n1_; have HB := n2_; clear n0_ n1_ n2_; (try clear hb); (try clear hb2); (try clear hk); (try clear hi)))
                      go_meet
                      case rel => exact ⟨_, (true), (by first | rfl | (simp; done) | (simp [*]; done)), H', ⟨by have := HJ13.out; first | omega | exact Nat.le_refl _⟩, ⟨by (with_reducible repeat (first | apply Kd.R_alloc | apply Kd.R_drewN | apply Kd.R_drew)); exact HO_262001.out⟩, ⟨by (with_reducible repeat (first | refine blk_drewN ?_ _ | refine blk_drew ?_ | refine blk_alloc ?_ _)); exact BK261.out⟩, ⟨by repeat (first | (with_reducible first | exact HB.out | apply below_alloc | apply pw_below_drewN | apply below_drew1 | refine below_set ?_ GE261.out) | exact HB.out)⟩⟩
                    · rw [if_neg c146] at H
                      have c146b0 : decide ((wrap64 ((wrap64 (t262 + t271)) - 100)) ≤ t262) = false := decide_eq_false c146
                      clear c146
                      replace H := Option.bind_eq_some_iff.mp H
                      obtain ⟨t282, A1530, H⟩ := H
                      replace H : (if t282 = true then (dialtonelaw05_ClockSound.j1 kj13 t262 t263 t264 t265 t267 t268 (decide (t262 ≤ (wrap64 ((wrap64 (t262 + t271)) - 100))))) else (dialtonelaw05_ClockSound.j1 kj13 t262 t263 t264 t265 t267 t268 false)) = some r := H
                      have A153 := Aside0.mk A1530
                      clear A1530
                      by_cases c154 : t282 = true
                      · subst c154
                        have H1 : (dialtonelaw05_ClockSound.j1 kj13 t262 t263 t264 t265 t267 t268 (decide (t262 ≤ (wrap64 ((wrap64 (t262 + t271)) - 100))))) = some r := by rw [if_pos rfl] at H; exact H
                        clear H
                        have H := H1
                        clear H1
                        have H' := Aside0.mk H
                        clear H
                        have hcz155_0 : w34.cell? ⟨gb261, 0, none⟩ = some (.int .i64 t257) := (blk_cell BK261.out 0).trans rfl
                        have hcz155_1 : w34.cell? ⟨gb261, 1, none⟩ = some (.slice Ao19 t258.length co19) := (blk_cell BK261.out 1).trans rfl
                        have hfz155_0 := blk_frozen BK261.out 0
                        have hfz155_1 := blk_frozen BK261.out 1
                        go_wp2_with (first | ((with_reducible refine gate_callee (f := 24) rfl ?_); refine goesL_ (some 71) rfl rfl Try.func24 (by kernel_rfl) rfl #[.agg #[.int .i64 t257, .slice Ao19 t258.length co19], .int .i64 t263, .int .i64 a5] rfl (by (try simp only [List.map_toArray, List.map_cons, List.map_nil]); first | done | rfl | (simp only [List.length_drop, List.length_take]; rfl)) ?_; (with_reducible refine (clock_Before.calls kj13 t257 _ _ t258 t263 a5 false _ ?side1 ?side2 A35.out).mono ?_); (case side1 => repeat (first | exact (Kd.R_reads' HO_262001.out).2.2 | (with_reducible refine Kd.C_alloc ?_ _) | (with_reducible refine Kd.C_drewN ?_ _) | (with_reducible refine Kd.C_drew ?_))); (case side2 => exact (Kd.R_reads' HO_262001.out).2.1); rintro e w156 ⟨rfl, hb⟩; refine ⟨_, rfl, ?_⟩; have n0_ := Aside0.mk (Kd.R_below (by (with_reducible repeat (first | apply Kd.R_alloc | apply Kd.R_drewN | apply Kd.R_drew)); exact HO_262001.out) hb); have n1_ := Aside0.mk (blk_below (g := gb261) (o := .cells #[.int .i64 t257, .slice Ao19 t258.length co19] 24 (0, 0)) (by (with_reducible repeat (first | refine blk_drewN ?_ _ | refine blk_drew ?_ | refine blk_alloc ?_ _)); exact BK261.out) hb); have n2_ := Aside0.mk (below_step (by repeat (first | (with_reducible first | exact HB.out | apply below_alloc | apply pw_below_drewN | apply below_drew1 | refine below_set ?_ GE261.out) | exact HB.out)) hb); clear HO_262001; clear BK261; clear HB; have HO_262001 := n0_; have BK261 := n1_; have HB := n2_; clear n0_ n1_ n2_; (try clear hb); (try clear hb2); (try clear hk); (try clear hi); have hcz157_0 : w156.cell? ⟨gb261, 0, none⟩ = some (.int .i64 t257) := (blk_cell BK261.out 0).trans rfl; have hcz157_1 : w156.cell? ⟨gb261, 1, none⟩ = some (.slice Ao19 t258.length co19) := (blk_cell BK261.out 1).trans rfl; have hfz157_0 := blk_frozen BK261.out 0; have hfz157_1 := blk_frozen BK261.out 1) | (go_at_call 26; (with_reducible refine (clock_After.calls kj13 t257 _ _ t258 t263 a5 true _ ?side1 ?side2 A137.out).mono ?_); (case side1 => repeat (first | exact (Kd.R_reads' HO_262001.out).2.2 | (with_reducible refine Kd.C_alloc ?_ _) | (with_reducible refine Kd.C_drewN ?_ _) | (with_reducible refine Kd.C_drew ?_))); (case side2 => exact (Kd.R_reads' HO_262001.out).2.1); rintro e w158 ⟨rfl, hb⟩; have n0_ := Aside0.mk (Kd.R_below (by (with_reducible repeat (first | apply Kd.R_alloc | apply Kd.R_drewN | apply Kd.R_drew)); exact HO_262001.out) hb); have n1_ := Aside0.mk (blk_below (g := gb261) (o := .cells #[.int .i64 t257, .slice Ao19 t258.length co19] 24 (0, 0)) (by (with_reducible repeat (first | refine blk_drewN ?_ _ | refine blk_drew ?_ | refine blk_alloc ?_ _)); exact BK261.out) hb); have n2_ := Aside0.mk (below_step (by repeat (first | (with_reducible first | exact HB.out | apply below_alloc | apply pw_below_drewN | apply below_drew1 | refine below_set ?_ GE261.out) | exact HB.out)) hb); clear HO_262001; clear BK261; clear HB; have HO_262001 := n0_; have BK261 := n1_; have HB := n2_; clear n0_ n1_ n2_; (try clear hb); (try clear hb2); (try clear hk); (try clear hi); have hcz159_0 : w158.cell? ⟨gb261, 0, none⟩ = some (.int .i64 t257) := (blk_cell BK261.out 0).trans rfl; have hcz159_1 : w158.cell? ⟨gb261, 1, none⟩ = some (.slice Ao19 t258.length co19) := (blk_cell BK261.out 1).trans rfl; have hfz159_0 := blk_frozen BK261.out 0; have hfz159_1 := blk_frozen BK261.out 1) | (go_at_call 24; (with_reducible refine (clock_Before.calls kj13 t257 _ _ t258 t263 (wrap64 ((wrap64 (t262 + t271)) - 100)) true _ ?side1 ?side2 A144.out).mono ?_); (case side1 => repeat (first | exact (Kd.R_reads' HO_262001.out).2.2 | (with_reducible refine Kd.C_alloc ?_ _) | (with_reducible refine Kd.C_drewN ?_ _) | (with_reducible refine Kd.C_drew ?_))); (case side2 => exact (Kd.R_reads' HO_262001.out).2.1); rintro e w160 ⟨rfl, hb⟩; have n0_ := Aside0.mk (Kd.R_below (by (with_reducible repeat (first | apply Kd.R_alloc | apply Kd.R_drewN | apply Kd.R_drew)); exact HO_262001.out) hb); have n1_ := Aside0.mk (blk_below (g := gb261) (o := .cells #[.int .i64 t257, .slice Ao19 t258.length co19] 24 (0, 0)) (by (with_reducible repeat (first | refine blk_drewN ?_ _ | refine blk_drew ?_ | refine blk_alloc ?_ _)); exact BK261.out) hb); have n2_ := Aside0.mk (below_step (by repeat (first | (with_reducible first | exact HB.out | apply below_alloc | apply pw_below_drewN | apply below_drew1 | refine below_set ?_ GE261.out) | exact HB.out)) hb); clear HO_262001; clear BK261; clear HB; have HO_262001 := n0_; have BK261 := n1_; have HB := n2_; clear n0_ n1_ n2_; (try clear hb); (try clear hb2); (try clear hk); (try clear hi); have hcz161_0 : w160.cell? ⟨gb261, 0, none⟩ = some (.int .i64 t257) := (blk_cell BK261.out 0).trans rfl; have hcz161_1 : w160.cell? ⟨gb261, 1, none⟩ = some (.slice Ao19 t258.length co19) := (blk_cell BK261.out 1).trans rfl; have hfz161_0 := blk_frozen BK261.out 0; have hfz161_1 := blk_frozen BK261.out 1) | (go_at_call 26; (with_reducible refine (clock_After.calls kj13 t257 _ _ t258 t263 (wrap64 ((wrap64 (t262 + t271)) - 100)) true _ ?side1 ?side2 A153.out).mono ?_); (case side1 => repeat (first | exact (Kd.R_reads' HO_262001.out).2.2 | (with_reducible refine Kd.C_alloc ?_ _) | (with_reducible refine Kd.C_drewN ?_ _) | (with_reducible refine Kd.C_drew ?_))); (case side2 => exact (Kd.R_reads' HO_262001.out).2.1); rintro e w162 ⟨rfl, hb⟩; have n0_ := Aside0.mk (Kd.R_below (by (with_reducible repeat (first | apply Kd.R_alloc | apply Kd.R_drewN | apply Kd.R_drew)); exact HO_262001.out) hb); have n1_ := Aside0.mk (blk_below (g := gb261) (o := .cells #[.int .i64 t257, .slice Ao19 t258.length co19] 24 (0, 0)) (by (with_reducible repeat (first | refine blk_drewN ?_ _ | refine blk_drew ?_ | refine blk_alloc ?_ _)); exact BK261.out) hb); have n2_ := Aside0.mk (below_step (by repeat (first | (with_reducible first | exact HB.out | apply below_alloc | apply pw_below_drewN | apply below_drew1 | refine below_set ?_ GE261.out) | exact HB.out)) hb); clear HO_262001; clear BK261; clear HB; have HO_262001 := n0_; have BK261 := n1_; have HB := n2_; clear n0_ n1_ n2_; (try clear hb); (try clear hb2); (try clear hk); (try clear hi)))
                        go_meet
                        case rel => exact ⟨_, (decide (t262 ≤ (wrap64 ((wrap64 (t262 + t271)) - 100)))), (by first | rfl | (simp; done) | (simp [*]; done)), H', ⟨by have := HJ13.out; first | omega | exact Nat.le_refl _⟩, ⟨by (with_reducible repeat (first | apply Kd.R_alloc | apply Kd.R_drewN | apply Kd.R_drew)); exact HO_262001.out⟩, ⟨by (with_reducible repeat (first | refine blk_drewN ?_ _ | refine blk_drew ?_ | refine blk_alloc ?_ _)); exact BK261.out⟩, ⟨by repeat (first | (with_reducible first | exact HB.out | apply below_alloc | apply pw_below_drewN | apply below_drew1 | refine below_set ?_ GE261.out) | exact HB.out)⟩⟩
                      · replace c154 := Bool.eq_false_iff.mpr c154
                        subst c154
                        have H1 : (dialtonelaw05_ClockSound.j1 kj13 t262 t263 t264 t265 t267 t268 false) = some r := by rw [if_neg (show ¬ (false = true) by decide)] at H; exact H
                        clear H
                        have H := H1
                        clear H1
                        have H' := Aside0.mk H
                        clear H
                        have hcz163_0 : w34.cell? ⟨gb261, 0, none⟩ = some (.int .i64 t257) := (blk_cell BK261.out 0).trans rfl
                        have hcz163_1 : w34.cell? ⟨gb261, 1, none⟩ = some (.slice Ao19 t258.length co19) := (blk_cell BK261.out 1).trans rfl
                        have hfz163_0 := blk_frozen BK261.out 0
                        have hfz163_1 := blk_frozen BK261.out 1
                        go_wp2_with (first | ((with_reducible refine gate_callee (f := 24) rfl ?_); refine goesL_ (some 71) rfl rfl Try.func24 (by kernel_rfl) rfl #[.agg #[.int .i64 t257, .slice Ao19 t258.length co19], .int .i64 t263, .int .i64 a5] rfl (by (try simp only [List.map_toArray, List.map_cons, List.map_nil]); first | done | rfl | (simp only [List.length_drop, List.length_take]; rfl)) ?_; (with_reducible refine (clock_Before.calls kj13 t257 _ _ t258 t263 a5 false _ ?side1 ?side2 A35.out).mono ?_); (case side1 => repeat (first | exact (Kd.R_reads' HO_262001.out).2.2 | (with_reducible refine Kd.C_alloc ?_ _) | (with_reducible refine Kd.C_drewN ?_ _) | (with_reducible refine Kd.C_drew ?_))); (case side2 => exact (Kd.R_reads' HO_262001.out).2.1); rintro e w164 ⟨rfl, hb⟩; refine ⟨_, rfl, ?_⟩; have n0_ := Aside0.mk (Kd.R_below (by (with_reducible repeat (first | apply Kd.R_alloc | apply Kd.R_drewN | apply Kd.R_drew)); exact HO_262001.out) hb); have n1_ := Aside0.mk (blk_below (g := gb261) (o := .cells #[.int .i64 t257, .slice Ao19 t258.length co19] 24 (0, 0)) (by (with_reducible repeat (first | refine blk_drewN ?_ _ | refine blk_drew ?_ | refine blk_alloc ?_ _)); exact BK261.out) hb); have n2_ := Aside0.mk (below_step (by repeat (first | (with_reducible first | exact HB.out | apply below_alloc | apply pw_below_drewN | apply below_drew1 | refine below_set ?_ GE261.out) | exact HB.out)) hb); clear HO_262001; clear BK261; clear HB; have HO_262001 := n0_; have BK261 := n1_; have HB := n2_; clear n0_ n1_ n2_; (try clear hb); (try clear hb2); (try clear hk); (try clear hi); have hcz165_0 : w164.cell? ⟨gb261, 0, none⟩ = some (.int .i64 t257) := (blk_cell BK261.out 0).trans rfl; have hcz165_1 : w164.cell? ⟨gb261, 1, none⟩ = some (.slice Ao19 t258.length co19) := (blk_cell BK261.out 1).trans rfl; have hfz165_0 := blk_frozen BK261.out 0; have hfz165_1 := blk_frozen BK261.out 1) | (go_at_call 26; (with_reducible refine (clock_After.calls kj13 t257 _ _ t258 t263 a5 true _ ?side1 ?side2 A137.out).mono ?_); (case side1 => repeat (first | exact (Kd.R_reads' HO_262001.out).2.2 | (with_reducible refine Kd.C_alloc ?_ _) | (with_reducible refine Kd.C_drewN ?_ _) | (with_reducible refine Kd.C_drew ?_))); (case side2 => exact (Kd.R_reads' HO_262001.out).2.1); rintro e w166 ⟨rfl, hb⟩; have n0_ := Aside0.mk (Kd.R_below (by (with_reducible repeat (first | apply Kd.R_alloc | apply Kd.R_drewN | apply Kd.R_drew)); exact HO_262001.out) hb); have n1_ := Aside0.mk (blk_below (g := gb261) (o := .cells #[.int .i64 t257, .slice Ao19 t258.length co19] 24 (0, 0)) (by (with_reducible repeat (first | refine blk_drewN ?_ _ | refine blk_drew ?_ | refine blk_alloc ?_ _)); exact BK261.out) hb); have n2_ := Aside0.mk (below_step (by repeat (first | (with_reducible first | exact HB.out | apply below_alloc | apply pw_below_drewN | apply below_drew1 | refine below_set ?_ GE261.out) | exact HB.out)) hb); clear HO_262001; clear BK261; clear HB; have HO_262001 := n0_; have BK261 := n1_; have HB := n2_; clear n0_ n1_ n2_; (try clear hb); (try clear hb2); (try clear hk); (try clear hi); have hcz167_0 : w166.cell? ⟨gb261, 0, none⟩ = some (.int .i64 t257) := (blk_cell BK261.out 0).trans rfl; have hcz167_1 : w166.cell? ⟨gb261, 1, none⟩ = some (.slice Ao19 t258.length co19) := (blk_cell BK261.out 1).trans rfl; have hfz167_0 := blk_frozen BK261.out 0; have hfz167_1 := blk_frozen BK261.out 1) | (go_at_call 24; (with_reducible refine (clock_Before.calls kj13 t257 _ _ t258 t263 (wrap64 ((wrap64 (t262 + t271)) - 100)) true _ ?side1 ?side2 A144.out).mono ?_); (case side1 => repeat (first | exact (Kd.R_reads' HO_262001.out).2.2 | (with_reducible refine Kd.C_alloc ?_ _) | (with_reducible refine Kd.C_drewN ?_ _) | (with_reducible refine Kd.C_drew ?_))); (case side2 => exact (Kd.R_reads' HO_262001.out).2.1); rintro e w168 ⟨rfl, hb⟩; have n0_ := Aside0.mk (Kd.R_below (by (with_reducible repeat (first | apply Kd.R_alloc | apply Kd.R_drewN | apply Kd.R_drew)); exact HO_262001.out) hb); have n1_ := Aside0.mk (blk_below (g := gb261) (o := .cells #[.int .i64 t257, .slice Ao19 t258.length co19] 24 (0, 0)) (by (with_reducible repeat (first | refine blk_drewN ?_ _ | refine blk_drew ?_ | refine blk_alloc ?_ _)); exact BK261.out) hb); have n2_ := Aside0.mk (below_step (by repeat (first | (with_reducible first | exact HB.out | apply below_alloc | apply pw_below_drewN | apply below_drew1 | refine below_set ?_ GE261.out) | exact HB.out)) hb); clear HO_262001; clear BK261; clear HB; have HO_262001 := n0_; have BK261 := n1_; have HB := n2_; clear n0_ n1_ n2_; (try clear hb); (try clear hb2); (try clear hk); (try clear hi); have hcz169_0 : w168.cell? ⟨gb261, 0, none⟩ = some (.int .i64 t257) := (blk_cell BK261.out 0).trans rfl; have hcz169_1 : w168.cell? ⟨gb261, 1, none⟩ = some (.slice Ao19 t258.length co19) := (blk_cell BK261.out 1).trans rfl; have hfz169_0 := blk_frozen BK261.out 0; have hfz169_1 := blk_frozen BK261.out 1) | (go_at_call 26; (with_reducible refine (clock_After.calls kj13 t257 _ _ t258 t263 (wrap64 ((wrap64 (t262 + t271)) - 100)) false _ ?side1 ?side2 A153.out).mono ?_); (case side1 => repeat (first | exact (Kd.R_reads' HO_262001.out).2.2 | (with_reducible refine Kd.C_alloc ?_ _) | (with_reducible refine Kd.C_drewN ?_ _) | (with_reducible refine Kd.C_drew ?_))); (case side2 => exact (Kd.R_reads' HO_262001.out).2.1); rintro e w170 ⟨rfl, hb⟩; have n0_ := Aside0.mk (Kd.R_below (by (with_reducible repeat (first | apply Kd.R_alloc | apply Kd.R_drewN | apply Kd.R_drew)); exact HO_262001.out) hb); have n1_ := Aside0.mk (blk_below (g := gb261) (o := .cells #[.int .i64 t257, .slice Ao19 t258.length co19] 24 (0, 0)) (by (with_reducible repeat (first | refine blk_drewN ?_ _ | refine blk_drew ?_ | refine blk_alloc ?_ _)); exact BK261.out) hb); have n2_ := Aside0.mk (below_step (by repeat (first | (with_reducible first | exact HB.out | apply below_alloc | apply pw_below_drewN | apply below_drew1 | refine below_set ?_ GE261.out) | exact HB.out)) hb); clear HO_262001; clear BK261; clear HB; have HO_262001 := n0_; have BK261 := n1_; have HB := n2_; clear n0_ n1_ n2_; (try clear hb); (try clear hb2); (try clear hk); (try clear hi)))
                        go_meet
                        case rel => exact ⟨_, (false), (by first | rfl | (simp; done) | (simp [*]; done)), H', ⟨by have := HJ13.out; first | omega | exact Nat.le_refl _⟩, ⟨by (with_reducible repeat (first | apply Kd.R_alloc | apply Kd.R_drewN | apply Kd.R_drew)); exact HO_262001.out⟩, ⟨by (with_reducible repeat (first | refine blk_drewN ?_ _ | refine blk_drew ?_ | refine blk_alloc ?_ _)); exact BK261.out⟩, ⟨by repeat (first | (with_reducible first | exact HB.out | apply below_alloc | apply pw_below_drewN | apply below_drew1 | refine below_set ?_ GE261.out) | exact HB.out)⟩⟩
                  · replace c145 := Bool.eq_false_iff.mpr c145
                    subst c145
                    have H1 : ((clock_After.f kj13 t257 t258 t263 (wrap64 ((wrap64 (t262 + t271)) - 100))).bind fun t283 => (if t283 = true then (dialtonelaw05_ClockSound.j1 kj13 t262 t263 t264 t265 t267 t268 (decide (t262 ≤ (wrap64 ((wrap64 (t262 + t271)) - 100))))) else (dialtonelaw05_ClockSound.j1 kj13 t262 t263 t264 t265 t267 t268 false))) = some r := by rw [if_neg (show ¬ (false = true) by decide)] at H; exact H
                    clear H
                    have H := H1
                    clear H1
                    replace H := Option.bind_eq_some_iff.mp H
                    obtain ⟨t283, A1710, H⟩ := H
                    replace H : (if t283 = true then (dialtonelaw05_ClockSound.j1 kj13 t262 t263 t264 t265 t267 t268 (decide (t262 ≤ (wrap64 ((wrap64 (t262 + t271)) - 100))))) else (dialtonelaw05_ClockSound.j1 kj13 t262 t263 t264 t265 t267 t268 false)) = some r := H
                    have A171 := Aside0.mk A1710
                    clear A1710
                    by_cases c172 : t283 = true
                    · subst c172
                      have H1 : (dialtonelaw05_ClockSound.j1 kj13 t262 t263 t264 t265 t267 t268 (decide (t262 ≤ (wrap64 ((wrap64 (t262 + t271)) - 100))))) = some r := by rw [if_pos rfl] at H; exact H
                      clear H
                      have H := H1
                      clear H1
                      have H' := Aside0.mk H
                      clear H
                      have hcz173_0 : w34.cell? ⟨gb261, 0, none⟩ = some (.int .i64 t257) := (blk_cell BK261.out 0).trans rfl
                      have hcz173_1 : w34.cell? ⟨gb261, 1, none⟩ = some (.slice Ao19 t258.length co19) := (blk_cell BK261.out 1).trans rfl
                      have hfz173_0 := blk_frozen BK261.out 0
                      have hfz173_1 := blk_frozen BK261.out 1
                      go_wp2_with (first | ((with_reducible refine gate_callee (f := 24) rfl ?_); refine goesL_ (some 71) rfl rfl Try.func24 (by kernel_rfl) rfl #[.agg #[.int .i64 t257, .slice Ao19 t258.length co19], .int .i64 t263, .int .i64 a5] rfl (by (try simp only [List.map_toArray, List.map_cons, List.map_nil]); first | done | rfl | (simp only [List.length_drop, List.length_take]; rfl)) ?_; (with_reducible refine (clock_Before.calls kj13 t257 _ _ t258 t263 a5 false _ ?side1 ?side2 A35.out).mono ?_); (case side1 => repeat (first | exact (Kd.R_reads' HO_262001.out).2.2 | (with_reducible refine Kd.C_alloc ?_ _) | (with_reducible refine Kd.C_drewN ?_ _) | (with_reducible refine Kd.C_drew ?_))); (case side2 => exact (Kd.R_reads' HO_262001.out).2.1); rintro e w174 ⟨rfl, hb⟩; refine ⟨_, rfl, ?_⟩; have n0_ := Aside0.mk (Kd.R_below (by (with_reducible repeat (first | apply Kd.R_alloc | apply Kd.R_drewN | apply Kd.R_drew)); exact HO_262001.out) hb); have n1_ := Aside0.mk (blk_below (g := gb261) (o := .cells #[.int .i64 t257, .slice Ao19 t258.length co19] 24 (0, 0)) (by (with_reducible repeat (first | refine blk_drewN ?_ _ | refine blk_drew ?_ | refine blk_alloc ?_ _)); exact BK261.out) hb); have n2_ := Aside0.mk (below_step (by repeat (first | (with_reducible first | exact HB.out | apply below_alloc | apply pw_below_drewN | apply below_drew1 | refine below_set ?_ GE261.out) | exact HB.out)) hb); clear HO_262001; clear BK261; clear HB; have HO_262001 := n0_; have BK261 := n1_; have HB := n2_; clear n0_ n1_ n2_; (try clear hb); (try clear hb2); (try clear hk); (try clear hi); have hcz175_0 : w174.cell? ⟨gb261, 0, none⟩ = some (.int .i64 t257) := (blk_cell BK261.out 0).trans rfl; have hcz175_1 : w174.cell? ⟨gb261, 1, none⟩ = some (.slice Ao19 t258.length co19) := (blk_cell BK261.out 1).trans rfl; have hfz175_0 := blk_frozen BK261.out 0; have hfz175_1 := blk_frozen BK261.out 1) | (go_at_call 26; (with_reducible refine (clock_After.calls kj13 t257 _ _ t258 t263 a5 true _ ?side1 ?side2 A137.out).mono ?_); (case side1 => repeat (first | exact (Kd.R_reads' HO_262001.out).2.2 | (with_reducible refine Kd.C_alloc ?_ _) | (with_reducible refine Kd.C_drewN ?_ _) | (with_reducible refine Kd.C_drew ?_))); (case side2 => exact (Kd.R_reads' HO_262001.out).2.1); rintro e w176 ⟨rfl, hb⟩; have n0_ := Aside0.mk (Kd.R_below (by (with_reducible repeat (first | apply Kd.R_alloc | apply Kd.R_drewN | apply Kd.R_drew)); exact HO_262001.out) hb); have n1_ := Aside0.mk (blk_below (g := gb261) (o := .cells #[.int .i64 t257, .slice Ao19 t258.length co19] 24 (0, 0)) (by (with_reducible repeat (first | refine blk_drewN ?_ _ | refine blk_drew ?_ | refine blk_alloc ?_ _)); exact BK261.out) hb); have n2_ := Aside0.mk (below_step (by repeat (first | (with_reducible first | exact HB.out | apply below_alloc | apply pw_below_drewN | apply below_drew1 | refine below_set ?_ GE261.out) | exact HB.out)) hb); clear HO_262001; clear BK261; clear HB; have HO_262001 := n0_; have BK261 := n1_; have HB := n2_; clear n0_ n1_ n2_; (try clear hb); (try clear hb2); (try clear hk); (try clear hi); have hcz177_0 : w176.cell? ⟨gb261, 0, none⟩ = some (.int .i64 t257) := (blk_cell BK261.out 0).trans rfl; have hcz177_1 : w176.cell? ⟨gb261, 1, none⟩ = some (.slice Ao19 t258.length co19) := (blk_cell BK261.out 1).trans rfl; have hfz177_0 := blk_frozen BK261.out 0; have hfz177_1 := blk_frozen BK261.out 1) | (go_at_call 24; (with_reducible refine (clock_Before.calls kj13 t257 _ _ t258 t263 (wrap64 ((wrap64 (t262 + t271)) - 100)) false _ ?side1 ?side2 A144.out).mono ?_); (case side1 => repeat (first | exact (Kd.R_reads' HO_262001.out).2.2 | (with_reducible refine Kd.C_alloc ?_ _) | (with_reducible refine Kd.C_drewN ?_ _) | (with_reducible refine Kd.C_drew ?_))); (case side2 => exact (Kd.R_reads' HO_262001.out).2.1); rintro e w178 ⟨rfl, hb⟩; have n0_ := Aside0.mk (Kd.R_below (by (with_reducible repeat (first | apply Kd.R_alloc | apply Kd.R_drewN | apply Kd.R_drew)); exact HO_262001.out) hb); have n1_ := Aside0.mk (blk_below (g := gb261) (o := .cells #[.int .i64 t257, .slice Ao19 t258.length co19] 24 (0, 0)) (by (with_reducible repeat (first | refine blk_drewN ?_ _ | refine blk_drew ?_ | refine blk_alloc ?_ _)); exact BK261.out) hb); have n2_ := Aside0.mk (below_step (by repeat (first | (with_reducible first | exact HB.out | apply below_alloc | apply pw_below_drewN | apply below_drew1 | refine below_set ?_ GE261.out) | exact HB.out)) hb); clear HO_262001; clear BK261; clear HB; have HO_262001 := n0_; have BK261 := n1_; have HB := n2_; clear n0_ n1_ n2_; (try clear hb); (try clear hb2); (try clear hk); (try clear hi); have hcz179_0 : w178.cell? ⟨gb261, 0, none⟩ = some (.int .i64 t257) := (blk_cell BK261.out 0).trans rfl; have hcz179_1 : w178.cell? ⟨gb261, 1, none⟩ = some (.slice Ao19 t258.length co19) := (blk_cell BK261.out 1).trans rfl; have hfz179_0 := blk_frozen BK261.out 0; have hfz179_1 := blk_frozen BK261.out 1) | (go_at_call 26; (with_reducible refine (clock_After.calls kj13 t257 _ _ t258 t263 (wrap64 ((wrap64 (t262 + t271)) - 100)) true _ ?side1 ?side2 A171.out).mono ?_); (case side1 => repeat (first | exact (Kd.R_reads' HO_262001.out).2.2 | (with_reducible refine Kd.C_alloc ?_ _) | (with_reducible refine Kd.C_drewN ?_ _) | (with_reducible refine Kd.C_drew ?_))); (case side2 => exact (Kd.R_reads' HO_262001.out).2.1); rintro e w180 ⟨rfl, hb⟩; have n0_ := Aside0.mk (Kd.R_below (by (with_reducible repeat (first | apply Kd.R_alloc | apply Kd.R_drewN | apply Kd.R_drew)); exact HO_262001.out) hb); have n1_ := Aside0.mk (blk_below (g := gb261) (o := .cells #[.int .i64 t257, .slice Ao19 t258.length co19] 24 (0, 0)) (by (with_reducible repeat (first | refine blk_drewN ?_ _ | refine blk_drew ?_ | refine blk_alloc ?_ _)); exact BK261.out) hb); have n2_ := Aside0.mk (below_step (by repeat (first | (with_reducible first | exact HB.out | apply below_alloc | apply pw_below_drewN | apply below_drew1 | refine below_set ?_ GE261.out) | exact HB.out)) hb); clear HO_262001; clear BK261; clear HB; have HO_262001 := n0_; have BK261 := n1_; have HB := n2_; clear n0_ n1_ n2_; (try clear hb); (try clear hb2); (try clear hk); (try clear hi)))
                      go_meet
                      case rel => exact ⟨_, (decide (t262 ≤ (wrap64 ((wrap64 (t262 + t271)) - 100)))), (by first | rfl | (simp; done) | (simp [*]; done)), H', ⟨by have := HJ13.out; first | omega | exact Nat.le_refl _⟩, ⟨by (with_reducible repeat (first | apply Kd.R_alloc | apply Kd.R_drewN | apply Kd.R_drew)); exact HO_262001.out⟩, ⟨by (with_reducible repeat (first | refine blk_drewN ?_ _ | refine blk_drew ?_ | refine blk_alloc ?_ _)); exact BK261.out⟩, ⟨by repeat (first | (with_reducible first | exact HB.out | apply below_alloc | apply pw_below_drewN | apply below_drew1 | refine below_set ?_ GE261.out) | exact HB.out)⟩⟩
                    · replace c172 := Bool.eq_false_iff.mpr c172
                      subst c172
                      have H1 : (dialtonelaw05_ClockSound.j1 kj13 t262 t263 t264 t265 t267 t268 false) = some r := by rw [if_neg (show ¬ (false = true) by decide)] at H; exact H
                      clear H
                      have H := H1
                      clear H1
                      have H' := Aside0.mk H
                      clear H
                      have hcz181_0 : w34.cell? ⟨gb261, 0, none⟩ = some (.int .i64 t257) := (blk_cell BK261.out 0).trans rfl
                      have hcz181_1 : w34.cell? ⟨gb261, 1, none⟩ = some (.slice Ao19 t258.length co19) := (blk_cell BK261.out 1).trans rfl
                      have hfz181_0 := blk_frozen BK261.out 0
                      have hfz181_1 := blk_frozen BK261.out 1
                      go_wp2_with (first | ((with_reducible refine gate_callee (f := 24) rfl ?_); refine goesL_ (some 71) rfl rfl Try.func24 (by kernel_rfl) rfl #[.agg #[.int .i64 t257, .slice Ao19 t258.length co19], .int .i64 t263, .int .i64 a5] rfl (by (try simp only [List.map_toArray, List.map_cons, List.map_nil]); first | done | rfl | (simp only [List.length_drop, List.length_take]; rfl)) ?_; (with_reducible refine (clock_Before.calls kj13 t257 _ _ t258 t263 a5 false _ ?side1 ?side2 A35.out).mono ?_); (case side1 => repeat (first | exact (Kd.R_reads' HO_262001.out).2.2 | (with_reducible refine Kd.C_alloc ?_ _) | (with_reducible refine Kd.C_drewN ?_ _) | (with_reducible refine Kd.C_drew ?_))); (case side2 => exact (Kd.R_reads' HO_262001.out).2.1); rintro e w182 ⟨rfl, hb⟩; refine ⟨_, rfl, ?_⟩; have n0_ := Aside0.mk (Kd.R_below (by (with_reducible repeat (first | apply Kd.R_alloc | apply Kd.R_drewN | apply Kd.R_drew)); exact HO_262001.out) hb); have n1_ := Aside0.mk (blk_below (g := gb261) (o := .cells #[.int .i64 t257, .slice Ao19 t258.length co19] 24 (0, 0)) (by (with_reducible repeat (first | refine blk_drewN ?_ _ | refine blk_drew ?_ | refine blk_alloc ?_ _)); exact BK261.out) hb); have n2_ := Aside0.mk (below_step (by repeat (first | (with_reducible first | exact HB.out | apply below_alloc | apply pw_below_drewN | apply below_drew1 | refine below_set ?_ GE261.out) | exact HB.out)) hb); clear HO_262001; clear BK261; clear HB; have HO_262001 := n0_; have BK261 := n1_; have HB := n2_; clear n0_ n1_ n2_; (try clear hb); (try clear hb2); (try clear hk); (try clear hi); have hcz183_0 : w182.cell? ⟨gb261, 0, none⟩ = some (.int .i64 t257) := (blk_cell BK261.out 0).trans rfl; have hcz183_1 : w182.cell? ⟨gb261, 1, none⟩ = some (.slice Ao19 t258.length co19) := (blk_cell BK261.out 1).trans rfl; have hfz183_0 := blk_frozen BK261.out 0; have hfz183_1 := blk_frozen BK261.out 1) | (go_at_call 26; (with_reducible refine (clock_After.calls kj13 t257 _ _ t258 t263 a5 true _ ?side1 ?side2 A137.out).mono ?_); (case side1 => repeat (first | exact (Kd.R_reads' HO_262001.out).2.2 | (with_reducible refine Kd.C_alloc ?_ _) | (with_reducible refine Kd.C_drewN ?_ _) | (with_reducible refine Kd.C_drew ?_))); (case side2 => exact (Kd.R_reads' HO_262001.out).2.1); rintro e w184 ⟨rfl, hb⟩; have n0_ := Aside0.mk (Kd.R_below (by (with_reducible repeat (first | apply Kd.R_alloc | apply Kd.R_drewN | apply Kd.R_drew)); exact HO_262001.out) hb); have n1_ := Aside0.mk (blk_below (g := gb261) (o := .cells #[.int .i64 t257, .slice Ao19 t258.length co19] 24 (0, 0)) (by (with_reducible repeat (first | refine blk_drewN ?_ _ | refine blk_drew ?_ | refine blk_alloc ?_ _)); exact BK261.out) hb); have n2_ := Aside0.mk (below_step (by repeat (first | (with_reducible first | exact HB.out | apply below_alloc | apply pw_below_drewN | apply below_drew1 | refine below_set ?_ GE261.out) | exact HB.out)) hb); clear HO_262001; clear BK261; clear HB; have HO_262001 := n0_; have BK261 := n1_; have HB := n2_; clear n0_ n1_ n2_; (try clear hb); (try clear hb2); (try clear hk); (try clear hi); have hcz185_0 : w184.cell? ⟨gb261, 0, none⟩ = some (.int .i64 t257) := (blk_cell BK261.out 0).trans rfl; have hcz185_1 : w184.cell? ⟨gb261, 1, none⟩ = some (.slice Ao19 t258.length co19) := (blk_cell BK261.out 1).trans rfl; have hfz185_0 := blk_frozen BK261.out 0; have hfz185_1 := blk_frozen BK261.out 1) | (go_at_call 24; (with_reducible refine (clock_Before.calls kj13 t257 _ _ t258 t263 (wrap64 ((wrap64 (t262 + t271)) - 100)) false _ ?side1 ?side2 A144.out).mono ?_); (case side1 => repeat (first | exact (Kd.R_reads' HO_262001.out).2.2 | (with_reducible refine Kd.C_alloc ?_ _) | (with_reducible refine Kd.C_drewN ?_ _) | (with_reducible refine Kd.C_drew ?_))); (case side2 => exact (Kd.R_reads' HO_262001.out).2.1); rintro e w186 ⟨rfl, hb⟩; have n0_ := Aside0.mk (Kd.R_below (by (with_reducible repeat (first | apply Kd.R_alloc | apply Kd.R_drewN | apply Kd.R_drew)); exact HO_262001.out) hb); have n1_ := Aside0.mk (blk_below (g := gb261) (o := .cells #[.int .i64 t257, .slice Ao19 t258.length co19] 24 (0, 0)) (by (with_reducible repeat (first | refine blk_drewN ?_ _ | refine blk_drew ?_ | refine blk_alloc ?_ _)); exact BK261.out) hb); have n2_ := Aside0.mk (below_step (by repeat (first | (with_reducible first | exact HB.out | apply below_alloc | apply pw_below_drewN | apply below_drew1 | refine below_set ?_ GE261.out) | exact HB.out)) hb); clear HO_262001; clear BK261; clear HB; have HO_262001 := n0_; have BK261 := n1_; have HB := n2_; clear n0_ n1_ n2_; (try clear hb); (try clear hb2); (try clear hk); (try clear hi); have hcz187_0 : w186.cell? ⟨gb261, 0, none⟩ = some (.int .i64 t257) := (blk_cell BK261.out 0).trans rfl; have hcz187_1 : w186.cell? ⟨gb261, 1, none⟩ = some (.slice Ao19 t258.length co19) := (blk_cell BK261.out 1).trans rfl; have hfz187_0 := blk_frozen BK261.out 0; have hfz187_1 := blk_frozen BK261.out 1) | (go_at_call 26; (with_reducible refine (clock_After.calls kj13 t257 _ _ t258 t263 (wrap64 ((wrap64 (t262 + t271)) - 100)) false _ ?side1 ?side2 A171.out).mono ?_); (case side1 => repeat (first | exact (Kd.R_reads' HO_262001.out).2.2 | (with_reducible refine Kd.C_alloc ?_ _) | (with_reducible refine Kd.C_drewN ?_ _) | (with_reducible refine Kd.C_drew ?_))); (case side2 => exact (Kd.R_reads' HO_262001.out).2.1); rintro e w188 ⟨rfl, hb⟩; have n0_ := Aside0.mk (Kd.R_below (by (with_reducible repeat (first | apply Kd.R_alloc | apply Kd.R_drewN | apply Kd.R_drew)); exact HO_262001.out) hb); have n1_ := Aside0.mk (blk_below (g := gb261) (o := .cells #[.int .i64 t257, .slice Ao19 t258.length co19] 24 (0, 0)) (by (with_reducible repeat (first | refine blk_drewN ?_ _ | refine blk_drew ?_ | refine blk_alloc ?_ _)); exact BK261.out) hb); have n2_ := Aside0.mk (below_step (by repeat (first | (with_reducible first | exact HB.out | apply below_alloc | apply pw_below_drewN | apply below_drew1 | refine below_set ?_ GE261.out) | exact HB.out)) hb); clear HO_262001; clear BK261; clear HB; have HO_262001 := n0_; have BK261 := n1_; have HB := n2_; clear n0_ n1_ n2_; (try clear hb); (try clear hb2); (try clear hk); (try clear hi)))
                      go_meet
                      case rel => exact ⟨_, (false), (by first | rfl | (simp; done) | (simp [*]; done)), H', ⟨by have := HJ13.out; first | omega | exact Nat.le_refl _⟩, ⟨by (with_reducible repeat (first | apply Kd.R_alloc | apply Kd.R_drewN | apply Kd.R_drew)); exact HO_262001.out⟩, ⟨by (with_reducible repeat (first | refine blk_drewN ?_ _ | refine blk_drew ?_ | refine blk_alloc ?_ _)); exact BK261.out⟩, ⟨by repeat (first | (with_reducible first | exact HB.out | apply below_alloc | apply pw_below_drewN | apply below_drew1 | refine below_set ?_ GE261.out) | exact HB.out)⟩⟩
              · replace c138 := Bool.eq_false_iff.mpr c138
                subst c138
                have H1 : ((clock_Before.f kj13 t257 t258 t263 (wrap64 ((wrap64 (t262 + t271)) - 100))).bind fun t284 => (if t284 = true then (if t262 ≥ (wrap64 ((wrap64 (t262 + t271)) - 100)) then (dialtonelaw05_ClockSound.j1 kj13 t262 t263 t264 t265 t267 t268 true) else ((clock_After.f kj13 t257 t258 t263 (wrap64 ((wrap64 (t262 + t271)) - 100))).bind fun t285 => (if t285 = true then (dialtonelaw05_ClockSound.j1 kj13 t262 t263 t264 t265 t267 t268 (decide (t262 ≤ (wrap64 ((wrap64 (t262 + t271)) - 100))))) else (dialtonelaw05_ClockSound.j1 kj13 t262 t263 t264 t265 t267 t268 false)))) else ((clock_After.f kj13 t257 t258 t263 (wrap64 ((wrap64 (t262 + t271)) - 100))).bind fun t286 => (if t286 = true then (dialtonelaw05_ClockSound.j1 kj13 t262 t263 t264 t265 t267 t268 (decide (t262 ≤ (wrap64 ((wrap64 (t262 + t271)) - 100))))) else (dialtonelaw05_ClockSound.j1 kj13 t262 t263 t264 t265 t267 t268 false))))) = some r := by rw [if_neg (show ¬ (false = true) by decide)] at H; exact H
                clear H
                have H := H1
                clear H1
                replace H := Option.bind_eq_some_iff.mp H
                obtain ⟨t284, A1890, H⟩ := H
                replace H : (if t284 = true then (if t262 ≥ (wrap64 ((wrap64 (t262 + t271)) - 100)) then (dialtonelaw05_ClockSound.j1 kj13 t262 t263 t264 t265 t267 t268 true) else ((clock_After.f kj13 t257 t258 t263 (wrap64 ((wrap64 (t262 + t271)) - 100))).bind fun t285 => (if t285 = true then (dialtonelaw05_ClockSound.j1 kj13 t262 t263 t264 t265 t267 t268 (decide (t262 ≤ (wrap64 ((wrap64 (t262 + t271)) - 100))))) else (dialtonelaw05_ClockSound.j1 kj13 t262 t263 t264 t265 t267 t268 false)))) else ((clock_After.f kj13 t257 t258 t263 (wrap64 ((wrap64 (t262 + t271)) - 100))).bind fun t286 => (if t286 = true then (dialtonelaw05_ClockSound.j1 kj13 t262 t263 t264 t265 t267 t268 (decide (t262 ≤ (wrap64 ((wrap64 (t262 + t271)) - 100))))) else (dialtonelaw05_ClockSound.j1 kj13 t262 t263 t264 t265 t267 t268 false)))) = some r := H
                have A189 := Aside0.mk A1890
                clear A1890
                by_cases c190 : t284 = true
                · subst c190
                  have H1 : (if t262 ≥ (wrap64 ((wrap64 (t262 + t271)) - 100)) then (dialtonelaw05_ClockSound.j1 kj13 t262 t263 t264 t265 t267 t268 true) else ((clock_After.f kj13 t257 t258 t263 (wrap64 ((wrap64 (t262 + t271)) - 100))).bind fun t285 => (if t285 = true then (dialtonelaw05_ClockSound.j1 kj13 t262 t263 t264 t265 t267 t268 (decide (t262 ≤ (wrap64 ((wrap64 (t262 + t271)) - 100))))) else (dialtonelaw05_ClockSound.j1 kj13 t262 t263 t264 t265 t267 t268 false)))) = some r := by rw [if_pos rfl] at H; exact H
                  clear H
                  have H := H1
                  clear H1
                  by_cases c191 : t262 ≥ (wrap64 ((wrap64 (t262 + t271)) - 100))
                  · rw [if_pos c191] at H
                    have c191b0 : decide ((wrap64 ((wrap64 (t262 + t271)) - 100)) ≤ t262) = true := decide_eq_true c191
                    clear c191
                    have H' := Aside0.mk H
                    clear H
                    have hcz192_0 : w34.cell? ⟨gb261, 0, none⟩ = some (.int .i64 t257) := (blk_cell BK261.out 0).trans rfl
                    have hcz192_1 : w34.cell? ⟨gb261, 1, none⟩ = some (.slice Ao19 t258.length co19) := (blk_cell BK261.out 1).trans rfl
                    have hfz192_0 := blk_frozen BK261.out 0
                    have hfz192_1 := blk_frozen BK261.out 1
                    go_wp2_with (first | ((with_reducible refine gate_callee (f := 24) rfl ?_); refine goesL_ (some 71) rfl rfl Try.func24 (by kernel_rfl) rfl #[.agg #[.int .i64 t257, .slice Ao19 t258.length co19], .int .i64 t263, .int .i64 a5] rfl (by (try simp only [List.map_toArray, List.map_cons, List.map_nil]); first | done | rfl | (simp only [List.length_drop, List.length_take]; rfl)) ?_; (with_reducible refine (clock_Before.calls kj13 t257 _ _ t258 t263 a5 false _ ?side1 ?side2 A35.out).mono ?_); (case side1 => repeat (first | exact (Kd.R_reads' HO_262001.out).2.2 | (with_reducible refine Kd.C_alloc ?_ _) | (with_reducible refine Kd.C_drewN ?_ _) | (with_reducible refine Kd.C_drew ?_))); (case side2 => exact (Kd.R_reads' HO_262001.out).2.1); rintro e w193 ⟨rfl, hb⟩; refine ⟨_, rfl, ?_⟩; have n0_ := Aside0.mk (Kd.R_below (by (with_reducible repeat (first | apply Kd.R_alloc | apply Kd.R_drewN | apply Kd.R_drew)); exact HO_262001.out) hb); have n1_ := Aside0.mk (blk_below (g := gb261) (o := .cells #[.int .i64 t257, .slice Ao19 t258.length co19] 24 (0, 0)) (by (with_reducible repeat (first | refine blk_drewN ?_ _ | refine blk_drew ?_ | refine blk_alloc ?_ _)); exact BK261.out) hb); have n2_ := Aside0.mk (below_step (by repeat (first | (with_reducible first | exact HB.out | apply below_alloc | apply pw_below_drewN | apply below_drew1 | refine below_set ?_ GE261.out) | exact HB.out)) hb); clear HO_262001; clear BK261; clear HB; have HO_262001 := n0_; have BK261 := n1_; have HB := n2_; clear n0_ n1_ n2_; (try clear hb); (try clear hb2); (try clear hk); (try clear hi); have hcz194_0 : w193.cell? ⟨gb261, 0, none⟩ = some (.int .i64 t257) := (blk_cell BK261.out 0).trans rfl; have hcz194_1 : w193.cell? ⟨gb261, 1, none⟩ = some (.slice Ao19 t258.length co19) := (blk_cell BK261.out 1).trans rfl; have hfz194_0 := blk_frozen BK261.out 0; have hfz194_1 := blk_frozen BK261.out 1) | (go_at_call 26; (with_reducible refine (clock_After.calls kj13 t257 _ _ t258 t263 a5 false _ ?side1 ?side2 A137.out).mono ?_); (case side1 => repeat (first | exact (Kd.R_reads' HO_262001.out).2.2 | (with_reducible refine Kd.C_alloc ?_ _) | (with_reducible refine Kd.C_drewN ?_ _) | (with_reducible refine Kd.C_drew ?_))); (case side2 => exact (Kd.R_reads' HO_262001.out).2.1); rintro e w195 ⟨rfl, hb⟩; have n0_ := Aside0.mk (Kd.R_below (by (with_reducible repeat (first | apply Kd.R_alloc | apply Kd.R_drewN | apply Kd.R_drew)); exact HO_262001.out) hb); have n1_ := Aside0.mk (blk_below (g := gb261) (o := .cells #[.int .i64 t257, .slice Ao19 t258.length co19] 24 (0, 0)) (by (with_reducible repeat (first | refine blk_drewN ?_ _ | refine blk_drew ?_ | refine blk_alloc ?_ _)); exact BK261.out) hb); have n2_ := Aside0.mk (below_step (by repeat (first | (with_reducible first | exact HB.out | apply below_alloc | apply pw_below_drewN | apply below_drew1 | refine below_set ?_ GE261.out) | exact HB.out)) hb); clear HO_262001; clear BK261; clear HB; have HO_262001 := n0_; have BK261 := n1_; have HB := n2_; clear n0_ n1_ n2_; (try clear hb); (try clear hb2); (try clear hk); (try clear hi); have hcz196_0 : w195.cell? ⟨gb261, 0, none⟩ = some (.int .i64 t257) := (blk_cell BK261.out 0).trans rfl; have hcz196_1 : w195.cell? ⟨gb261, 1, none⟩ = some (.slice Ao19 t258.length co19) := (blk_cell BK261.out 1).trans rfl; have hfz196_0 := blk_frozen BK261.out 0; have hfz196_1 := blk_frozen BK261.out 1) | (go_at_call 24; (with_reducible refine (clock_Before.calls kj13 t257 _ _ t258 t263 (wrap64 ((wrap64 (t262 + t271)) - 100)) true _ ?side1 ?side2 A189.out).mono ?_); (case side1 => repeat (first | exact (Kd.R_reads' HO_262001.out).2.2 | (with_reducible refine Kd.C_alloc ?_ _) | (with_reducible refine Kd.C_drewN ?_ _) | (with_reducible refine Kd.C_drew ?_))); (case side2 => exact (Kd.R_reads' HO_262001.out).2.1); rintro e w197 ⟨rfl, hb⟩; have n0_ := Aside0.mk (Kd.R_below (by (with_reducible repeat (first | apply Kd.R_alloc | apply Kd.R_drewN | apply Kd.R_drew)); exact HO_262001.out) hb); have n1_ := Aside0.mk (blk_below (g := gb261) (o := .cells #[.int .i64 t257, .slice Ao19 t258.length co19] 24 (0, 0)) (by (with_reducible repeat (first | refine blk_drewN ?_ _ | refine blk_drew ?_ | refine blk_alloc ?_ _)); exact BK261.out) hb); have n2_ := Aside0.mk (below_step (by repeat (first | (with_reducible first | exact HB.out | apply below_alloc | apply pw_below_drewN | apply below_drew1 | refine below_set ?_ GE261.out) | exact HB.out)) hb); clear HO_262001; clear BK261; clear HB; have HO_262001 := n0_; have BK261 := n1_; have HB := n2_; clear n0_ n1_ n2_; (try clear hb); (try clear hb2); (try clear hk); (try clear hi)))
                    go_meet
                    case rel => exact ⟨_, (true), (by first | rfl | (simp; done) | (simp [*]; done)), H', ⟨by have := HJ13.out; first | omega | exact Nat.le_refl _⟩, ⟨by (with_reducible repeat (first | apply Kd.R_alloc | apply Kd.R_drewN | apply Kd.R_drew)); exact HO_262001.out⟩, ⟨by (with_reducible repeat (first | refine blk_drewN ?_ _ | refine blk_drew ?_ | refine blk_alloc ?_ _)); exact BK261.out⟩, ⟨by repeat (first | (with_reducible first | exact HB.out | apply below_alloc | apply pw_below_drewN | apply below_drew1 | refine below_set ?_ GE261.out) | exact HB.out)⟩⟩
                  · rw [if_neg c191] at H
                    have c191b0 : decide ((wrap64 ((wrap64 (t262 + t271)) - 100)) ≤ t262) = false := decide_eq_false c191
                    clear c191
                    replace H := Option.bind_eq_some_iff.mp H
                    obtain ⟨t285, A1980, H⟩ := H
                    replace H : (if t285 = true then (dialtonelaw05_ClockSound.j1 kj13 t262 t263 t264 t265 t267 t268 (decide (t262 ≤ (wrap64 ((wrap64 (t262 + t271)) - 100))))) else (dialtonelaw05_ClockSound.j1 kj13 t262 t263 t264 t265 t267 t268 false)) = some r := H
                    have A198 := Aside0.mk A1980
                    clear A1980
                    by_cases c199 : t285 = true
                    · subst c199
                      have H1 : (dialtonelaw05_ClockSound.j1 kj13 t262 t263 t264 t265 t267 t268 (decide (t262 ≤ (wrap64 ((wrap64 (t262 + t271)) - 100))))) = some r := by rw [if_pos rfl] at H; exact H
                      clear H
                      have H := H1
                      clear H1
                      have H' := Aside0.mk H
                      clear H
                      have hcz200_0 : w34.cell? ⟨gb261, 0, none⟩ = some (.int .i64 t257) := (blk_cell BK261.out 0).trans rfl
                      have hcz200_1 : w34.cell? ⟨gb261, 1, none⟩ = some (.slice Ao19 t258.length co19) := (blk_cell BK261.out 1).trans rfl
                      have hfz200_0 := blk_frozen BK261.out 0
                      have hfz200_1 := blk_frozen BK261.out 1
                      go_wp2_with (first | ((with_reducible refine gate_callee (f := 24) rfl ?_); refine goesL_ (some 71) rfl rfl Try.func24 (by kernel_rfl) rfl #[.agg #[.int .i64 t257, .slice Ao19 t258.length co19], .int .i64 t263, .int .i64 a5] rfl (by (try simp only [List.map_toArray, List.map_cons, List.map_nil]); first | done | rfl | (simp only [List.length_drop, List.length_take]; rfl)) ?_; (with_reducible refine (clock_Before.calls kj13 t257 _ _ t258 t263 a5 false _ ?side1 ?side2 A35.out).mono ?_); (case side1 => repeat (first | exact (Kd.R_reads' HO_262001.out).2.2 | (with_reducible refine Kd.C_alloc ?_ _) | (with_reducible refine Kd.C_drewN ?_ _) | (with_reducible refine Kd.C_drew ?_))); (case side2 => exact (Kd.R_reads' HO_262001.out).2.1); rintro e w201 ⟨rfl, hb⟩; refine ⟨_, rfl, ?_⟩; have n0_ := Aside0.mk (Kd.R_below (by (with_reducible repeat (first | apply Kd.R_alloc | apply Kd.R_drewN | apply Kd.R_drew)); exact HO_262001.out) hb); have n1_ := Aside0.mk (blk_below (g := gb261) (o := .cells #[.int .i64 t257, .slice Ao19 t258.length co19] 24 (0, 0)) (by (with_reducible repeat (first | refine blk_drewN ?_ _ | refine blk_drew ?_ | refine blk_alloc ?_ _)); exact BK261.out) hb); have n2_ := Aside0.mk (below_step (by repeat (first | (with_reducible first | exact HB.out | apply below_alloc | apply pw_below_drewN | apply below_drew1 | refine below_set ?_ GE261.out) | exact HB.out)) hb); clear HO_262001; clear BK261; clear HB; have HO_262001 := n0_; have BK261 := n1_; have HB := n2_; clear n0_ n1_ n2_; (try clear hb); (try clear hb2); (try clear hk); (try clear hi); have hcz202_0 : w201.cell? ⟨gb261, 0, none⟩ = some (.int .i64 t257) := (blk_cell BK261.out 0).trans rfl; have hcz202_1 : w201.cell? ⟨gb261, 1, none⟩ = some (.slice Ao19 t258.length co19) := (blk_cell BK261.out 1).trans rfl; have hfz202_0 := blk_frozen BK261.out 0; have hfz202_1 := blk_frozen BK261.out 1) | (go_at_call 26; (with_reducible refine (clock_After.calls kj13 t257 _ _ t258 t263 a5 false _ ?side1 ?side2 A137.out).mono ?_); (case side1 => repeat (first | exact (Kd.R_reads' HO_262001.out).2.2 | (with_reducible refine Kd.C_alloc ?_ _) | (with_reducible refine Kd.C_drewN ?_ _) | (with_reducible refine Kd.C_drew ?_))); (case side2 => exact (Kd.R_reads' HO_262001.out).2.1); rintro e w203 ⟨rfl, hb⟩; have n0_ := Aside0.mk (Kd.R_below (by (with_reducible repeat (first | apply Kd.R_alloc | apply Kd.R_drewN | apply Kd.R_drew)); exact HO_262001.out) hb); have n1_ := Aside0.mk (blk_below (g := gb261) (o := .cells #[.int .i64 t257, .slice Ao19 t258.length co19] 24 (0, 0)) (by (with_reducible repeat (first | refine blk_drewN ?_ _ | refine blk_drew ?_ | refine blk_alloc ?_ _)); exact BK261.out) hb); have n2_ := Aside0.mk (below_step (by repeat (first | (with_reducible first | exact HB.out | apply below_alloc | apply pw_below_drewN | apply below_drew1 | refine below_set ?_ GE261.out) | exact HB.out)) hb); clear HO_262001; clear BK261; clear HB; have HO_262001 := n0_; have BK261 := n1_; have HB := n2_; clear n0_ n1_ n2_; (try clear hb); (try clear hb2); (try clear hk); (try clear hi); have hcz204_0 : w203.cell? ⟨gb261, 0, none⟩ = some (.int .i64 t257) := (blk_cell BK261.out 0).trans rfl; have hcz204_1 : w203.cell? ⟨gb261, 1, none⟩ = some (.slice Ao19 t258.length co19) := (blk_cell BK261.out 1).trans rfl; have hfz204_0 := blk_frozen BK261.out 0; have hfz204_1 := blk_frozen BK261.out 1) | (go_at_call 24; (with_reducible refine (clock_Before.calls kj13 t257 _ _ t258 t263 (wrap64 ((wrap64 (t262 + t271)) - 100)) true _ ?side1 ?side2 A189.out).mono ?_); (case side1 => repeat (first | exact (Kd.R_reads' HO_262001.out).2.2 | (with_reducible refine Kd.C_alloc ?_ _) | (with_reducible refine Kd.C_drewN ?_ _) | (with_reducible refine Kd.C_drew ?_))); (case side2 => exact (Kd.R_reads' HO_262001.out).2.1); rintro e w205 ⟨rfl, hb⟩; have n0_ := Aside0.mk (Kd.R_below (by (with_reducible repeat (first | apply Kd.R_alloc | apply Kd.R_drewN | apply Kd.R_drew)); exact HO_262001.out) hb); have n1_ := Aside0.mk (blk_below (g := gb261) (o := .cells #[.int .i64 t257, .slice Ao19 t258.length co19] 24 (0, 0)) (by (with_reducible repeat (first | refine blk_drewN ?_ _ | refine blk_drew ?_ | refine blk_alloc ?_ _)); exact BK261.out) hb); have n2_ := Aside0.mk (below_step (by repeat (first | (with_reducible first | exact HB.out | apply below_alloc | apply pw_below_drewN | apply below_drew1 | refine below_set ?_ GE261.out) | exact HB.out)) hb); clear HO_262001; clear BK261; clear HB; have HO_262001 := n0_; have BK261 := n1_; have HB := n2_; clear n0_ n1_ n2_; (try clear hb); (try clear hb2); (try clear hk); (try clear hi); have hcz206_0 : w205.cell? ⟨gb261, 0, none⟩ = some (.int .i64 t257) := (blk_cell BK261.out 0).trans rfl; have hcz206_1 : w205.cell? ⟨gb261, 1, none⟩ = some (.slice Ao19 t258.length co19) := (blk_cell BK261.out 1).trans rfl; have hfz206_0 := blk_frozen BK261.out 0; have hfz206_1 := blk_frozen BK261.out 1) | (go_at_call 26; (with_reducible refine (clock_After.calls kj13 t257 _ _ t258 t263 (wrap64 ((wrap64 (t262 + t271)) - 100)) true _ ?side1 ?side2 A198.out).mono ?_); (case side1 => repeat (first | exact (Kd.R_reads' HO_262001.out).2.2 | (with_reducible refine Kd.C_alloc ?_ _) | (with_reducible refine Kd.C_drewN ?_ _) | (with_reducible refine Kd.C_drew ?_))); (case side2 => exact (Kd.R_reads' HO_262001.out).2.1); rintro e w207 ⟨rfl, hb⟩; have n0_ := Aside0.mk (Kd.R_below (by (with_reducible repeat (first | apply Kd.R_alloc | apply Kd.R_drewN | apply Kd.R_drew)); exact HO_262001.out) hb); have n1_ := Aside0.mk (blk_below (g := gb261) (o := .cells #[.int .i64 t257, .slice Ao19 t258.length co19] 24 (0, 0)) (by (with_reducible repeat (first | refine blk_drewN ?_ _ | refine blk_drew ?_ | refine blk_alloc ?_ _)); exact BK261.out) hb); have n2_ := Aside0.mk (below_step (by repeat (first | (with_reducible first | exact HB.out | apply below_alloc | apply pw_below_drewN | apply below_drew1 | refine below_set ?_ GE261.out) | exact HB.out)) hb); clear HO_262001; clear BK261; clear HB; have HO_262001 := n0_; have BK261 := n1_; have HB := n2_; clear n0_ n1_ n2_; (try clear hb); (try clear hb2); (try clear hk); (try clear hi)))
                      go_meet
                      case rel => exact ⟨_, (decide (t262 ≤ (wrap64 ((wrap64 (t262 + t271)) - 100)))), (by first | rfl | (simp; done) | (simp [*]; done)), H', ⟨by have := HJ13.out; first | omega | exact Nat.le_refl _⟩, ⟨by (with_reducible repeat (first | apply Kd.R_alloc | apply Kd.R_drewN | apply Kd.R_drew)); exact HO_262001.out⟩, ⟨by (with_reducible repeat (first | refine blk_drewN ?_ _ | refine blk_drew ?_ | refine blk_alloc ?_ _)); exact BK261.out⟩, ⟨by repeat (first | (with_reducible first | exact HB.out | apply below_alloc | apply pw_below_drewN | apply below_drew1 | refine below_set ?_ GE261.out) | exact HB.out)⟩⟩
                    · replace c199 := Bool.eq_false_iff.mpr c199
                      subst c199
                      have H1 : (dialtonelaw05_ClockSound.j1 kj13 t262 t263 t264 t265 t267 t268 false) = some r := by rw [if_neg (show ¬ (false = true) by decide)] at H; exact H
                      clear H
                      have H := H1
                      clear H1
                      have H' := Aside0.mk H
                      clear H
                      have hcz208_0 : w34.cell? ⟨gb261, 0, none⟩ = some (.int .i64 t257) := (blk_cell BK261.out 0).trans rfl
                      have hcz208_1 : w34.cell? ⟨gb261, 1, none⟩ = some (.slice Ao19 t258.length co19) := (blk_cell BK261.out 1).trans rfl
                      have hfz208_0 := blk_frozen BK261.out 0
                      have hfz208_1 := blk_frozen BK261.out 1
                      go_wp2_with (first | ((with_reducible refine gate_callee (f := 24) rfl ?_); refine goesL_ (some 71) rfl rfl Try.func24 (by kernel_rfl) rfl #[.agg #[.int .i64 t257, .slice Ao19 t258.length co19], .int .i64 t263, .int .i64 a5] rfl (by (try simp only [List.map_toArray, List.map_cons, List.map_nil]); first | done | rfl | (simp only [List.length_drop, List.length_take]; rfl)) ?_; (with_reducible refine (clock_Before.calls kj13 t257 _ _ t258 t263 a5 false _ ?side1 ?side2 A35.out).mono ?_); (case side1 => repeat (first | exact (Kd.R_reads' HO_262001.out).2.2 | (with_reducible refine Kd.C_alloc ?_ _) | (with_reducible refine Kd.C_drewN ?_ _) | (with_reducible refine Kd.C_drew ?_))); (case side2 => exact (Kd.R_reads' HO_262001.out).2.1); rintro e w209 ⟨rfl, hb⟩; refine ⟨_, rfl, ?_⟩; have n0_ := Aside0.mk (Kd.R_below (by (with_reducible repeat (first | apply Kd.R_alloc | apply Kd.R_drewN | apply Kd.R_drew)); exact HO_262001.out) hb); have n1_ := Aside0.mk (blk_below (g := gb261) (o := .cells #[.int .i64 t257, .slice Ao19 t258.length co19] 24 (0, 0)) (by (with_reducible repeat (first | refine blk_drewN ?_ _ | refine blk_drew ?_ | refine blk_alloc ?_ _)); exact BK261.out) hb); have n2_ := Aside0.mk (below_step (by repeat (first | (with_reducible first | exact HB.out | apply below_alloc | apply pw_below_drewN | apply below_drew1 | refine below_set ?_ GE261.out) | exact HB.out)) hb); clear HO_262001; clear BK261; clear HB; have HO_262001 := n0_; have BK261 := n1_; have HB := n2_; clear n0_ n1_ n2_; (try clear hb); (try clear hb2); (try clear hk); (try clear hi); have hcz210_0 : w209.cell? ⟨gb261, 0, none⟩ = some (.int .i64 t257) := (blk_cell BK261.out 0).trans rfl; have hcz210_1 : w209.cell? ⟨gb261, 1, none⟩ = some (.slice Ao19 t258.length co19) := (blk_cell BK261.out 1).trans rfl; have hfz210_0 := blk_frozen BK261.out 0; have hfz210_1 := blk_frozen BK261.out 1) | (go_at_call 26; (with_reducible refine (clock_After.calls kj13 t257 _ _ t258 t263 a5 false _ ?side1 ?side2 A137.out).mono ?_); (case side1 => repeat (first | exact (Kd.R_reads' HO_262001.out).2.2 | (with_reducible refine Kd.C_alloc ?_ _) | (with_reducible refine Kd.C_drewN ?_ _) | (with_reducible refine Kd.C_drew ?_))); (case side2 => exact (Kd.R_reads' HO_262001.out).2.1); rintro e w211 ⟨rfl, hb⟩; have n0_ := Aside0.mk (Kd.R_below (by (with_reducible repeat (first | apply Kd.R_alloc | apply Kd.R_drewN | apply Kd.R_drew)); exact HO_262001.out) hb); have n1_ := Aside0.mk (blk_below (g := gb261) (o := .cells #[.int .i64 t257, .slice Ao19 t258.length co19] 24 (0, 0)) (by (with_reducible repeat (first | refine blk_drewN ?_ _ | refine blk_drew ?_ | refine blk_alloc ?_ _)); exact BK261.out) hb); have n2_ := Aside0.mk (below_step (by repeat (first | (with_reducible first | exact HB.out | apply below_alloc | apply pw_below_drewN | apply below_drew1 | refine below_set ?_ GE261.out) | exact HB.out)) hb); clear HO_262001; clear BK261; clear HB; have HO_262001 := n0_; have BK261 := n1_; have HB := n2_; clear n0_ n1_ n2_; (try clear hb); (try clear hb2); (try clear hk); (try clear hi); have hcz212_0 : w211.cell? ⟨gb261, 0, none⟩ = some (.int .i64 t257) := (blk_cell BK261.out 0).trans rfl; have hcz212_1 : w211.cell? ⟨gb261, 1, none⟩ = some (.slice Ao19 t258.length co19) := (blk_cell BK261.out 1).trans rfl; have hfz212_0 := blk_frozen BK261.out 0; have hfz212_1 := blk_frozen BK261.out 1) | (go_at_call 24; (with_reducible refine (clock_Before.calls kj13 t257 _ _ t258 t263 (wrap64 ((wrap64 (t262 + t271)) - 100)) true _ ?side1 ?side2 A189.out).mono ?_); (case side1 => repeat (first | exact (Kd.R_reads' HO_262001.out).2.2 | (with_reducible refine Kd.C_alloc ?_ _) | (with_reducible refine Kd.C_drewN ?_ _) | (with_reducible refine Kd.C_drew ?_))); (case side2 => exact (Kd.R_reads' HO_262001.out).2.1); rintro e w213 ⟨rfl, hb⟩; have n0_ := Aside0.mk (Kd.R_below (by (with_reducible repeat (first | apply Kd.R_alloc | apply Kd.R_drewN | apply Kd.R_drew)); exact HO_262001.out) hb); have n1_ := Aside0.mk (blk_below (g := gb261) (o := .cells #[.int .i64 t257, .slice Ao19 t258.length co19] 24 (0, 0)) (by (with_reducible repeat (first | refine blk_drewN ?_ _ | refine blk_drew ?_ | refine blk_alloc ?_ _)); exact BK261.out) hb); have n2_ := Aside0.mk (below_step (by repeat (first | (with_reducible first | exact HB.out | apply below_alloc | apply pw_below_drewN | apply below_drew1 | refine below_set ?_ GE261.out) | exact HB.out)) hb); clear HO_262001; clear BK261; clear HB; have HO_262001 := n0_; have BK261 := n1_; have HB := n2_; clear n0_ n1_ n2_; (try clear hb); (try clear hb2); (try clear hk); (try clear hi); have hcz214_0 : w213.cell? ⟨gb261, 0, none⟩ = some (.int .i64 t257) := (blk_cell BK261.out 0).trans rfl; have hcz214_1 : w213.cell? ⟨gb261, 1, none⟩ = some (.slice Ao19 t258.length co19) := (blk_cell BK261.out 1).trans rfl; have hfz214_0 := blk_frozen BK261.out 0; have hfz214_1 := blk_frozen BK261.out 1) | (go_at_call 26; (with_reducible refine (clock_After.calls kj13 t257 _ _ t258 t263 (wrap64 ((wrap64 (t262 + t271)) - 100)) false _ ?side1 ?side2 A198.out).mono ?_); (case side1 => repeat (first | exact (Kd.R_reads' HO_262001.out).2.2 | (with_reducible refine Kd.C_alloc ?_ _) | (with_reducible refine Kd.C_drewN ?_ _) | (with_reducible refine Kd.C_drew ?_))); (case side2 => exact (Kd.R_reads' HO_262001.out).2.1); rintro e w215 ⟨rfl, hb⟩; have n0_ := Aside0.mk (Kd.R_below (by (with_reducible repeat (first | apply Kd.R_alloc | apply Kd.R_drewN | apply Kd.R_drew)); exact HO_262001.out) hb); have n1_ := Aside0.mk (blk_below (g := gb261) (o := .cells #[.int .i64 t257, .slice Ao19 t258.length co19] 24 (0, 0)) (by (with_reducible repeat (first | refine blk_drewN ?_ _ | refine blk_drew ?_ | refine blk_alloc ?_ _)); exact BK261.out) hb); have n2_ := Aside0.mk (below_step (by repeat (first | (with_reducible first | exact HB.out | apply below_alloc | apply pw_below_drewN | apply below_drew1 | refine below_set ?_ GE261.out) | exact HB.out)) hb); clear HO_262001; clear BK261; clear HB; have HO_262001 := n0_; have BK261 := n1_; have HB := n2_; clear n0_ n1_ n2_; (try clear hb); (try clear hb2); (try clear hk); (try clear hi)))
                      go_meet
                      case rel => exact ⟨_, (false), (by first | rfl | (simp; done) | (simp [*]; done)), H', ⟨by have := HJ13.out; first | omega | exact Nat.le_refl _⟩, ⟨by (with_reducible repeat (first | apply Kd.R_alloc | apply Kd.R_drewN | apply Kd.R_drew)); exact HO_262001.out⟩, ⟨by (with_reducible repeat (first | refine blk_drewN ?_ _ | refine blk_drew ?_ | refine blk_alloc ?_ _)); exact BK261.out⟩, ⟨by repeat (first | (with_reducible first | exact HB.out | apply below_alloc | apply pw_below_drewN | apply below_drew1 | refine below_set ?_ GE261.out) | exact HB.out)⟩⟩
                · replace c190 := Bool.eq_false_iff.mpr c190
                  subst c190
                  have H1 : ((clock_After.f kj13 t257 t258 t263 (wrap64 ((wrap64 (t262 + t271)) - 100))).bind fun t286 => (if t286 = true then (dialtonelaw05_ClockSound.j1 kj13 t262 t263 t264 t265 t267 t268 (decide (t262 ≤ (wrap64 ((wrap64 (t262 + t271)) - 100))))) else (dialtonelaw05_ClockSound.j1 kj13 t262 t263 t264 t265 t267 t268 false))) = some r := by rw [if_neg (show ¬ (false = true) by decide)] at H; exact H
                  clear H
                  have H := H1
                  clear H1
                  replace H := Option.bind_eq_some_iff.mp H
                  obtain ⟨t286, A2160, H⟩ := H
                  replace H : (if t286 = true then (dialtonelaw05_ClockSound.j1 kj13 t262 t263 t264 t265 t267 t268 (decide (t262 ≤ (wrap64 ((wrap64 (t262 + t271)) - 100))))) else (dialtonelaw05_ClockSound.j1 kj13 t262 t263 t264 t265 t267 t268 false)) = some r := H
                  have A216 := Aside0.mk A2160
                  clear A2160
                  by_cases c217 : t286 = true
                  · subst c217
                    have H1 : (dialtonelaw05_ClockSound.j1 kj13 t262 t263 t264 t265 t267 t268 (decide (t262 ≤ (wrap64 ((wrap64 (t262 + t271)) - 100))))) = some r := by rw [if_pos rfl] at H; exact H
                    clear H
                    have H := H1
                    clear H1
                    have H' := Aside0.mk H
                    clear H
                    have hcz218_0 : w34.cell? ⟨gb261, 0, none⟩ = some (.int .i64 t257) := (blk_cell BK261.out 0).trans rfl
                    have hcz218_1 : w34.cell? ⟨gb261, 1, none⟩ = some (.slice Ao19 t258.length co19) := (blk_cell BK261.out 1).trans rfl
                    have hfz218_0 := blk_frozen BK261.out 0
                    have hfz218_1 := blk_frozen BK261.out 1
                    go_wp2_with (first | ((with_reducible refine gate_callee (f := 24) rfl ?_); refine goesL_ (some 71) rfl rfl Try.func24 (by kernel_rfl) rfl #[.agg #[.int .i64 t257, .slice Ao19 t258.length co19], .int .i64 t263, .int .i64 a5] rfl (by (try simp only [List.map_toArray, List.map_cons, List.map_nil]); first | done | rfl | (simp only [List.length_drop, List.length_take]; rfl)) ?_; (with_reducible refine (clock_Before.calls kj13 t257 _ _ t258 t263 a5 false _ ?side1 ?side2 A35.out).mono ?_); (case side1 => repeat (first | exact (Kd.R_reads' HO_262001.out).2.2 | (with_reducible refine Kd.C_alloc ?_ _) | (with_reducible refine Kd.C_drewN ?_ _) | (with_reducible refine Kd.C_drew ?_))); (case side2 => exact (Kd.R_reads' HO_262001.out).2.1); rintro e w219 ⟨rfl, hb⟩; refine ⟨_, rfl, ?_⟩; have n0_ := Aside0.mk (Kd.R_below (by (with_reducible repeat (first | apply Kd.R_alloc | apply Kd.R_drewN | apply Kd.R_drew)); exact HO_262001.out) hb); have n1_ := Aside0.mk (blk_below (g := gb261) (o := .cells #[.int .i64 t257, .slice Ao19 t258.length co19] 24 (0, 0)) (by (with_reducible repeat (first | refine blk_drewN ?_ _ | refine blk_drew ?_ | refine blk_alloc ?_ _)); exact BK261.out) hb); have n2_ := Aside0.mk (below_step (by repeat (first | (with_reducible first | exact HB.out | apply below_alloc | apply pw_below_drewN | apply below_drew1 | refine below_set ?_ GE261.out) | exact HB.out)) hb); clear HO_262001; clear BK261; clear HB; have HO_262001 := n0_; have BK261 := n1_; have HB := n2_; clear n0_ n1_ n2_; (try clear hb); (try clear hb2); (try clear hk); (try clear hi); have hcz220_0 : w219.cell? ⟨gb261, 0, none⟩ = some (.int .i64 t257) := (blk_cell BK261.out 0).trans rfl; have hcz220_1 : w219.cell? ⟨gb261, 1, none⟩ = some (.slice Ao19 t258.length co19) := (blk_cell BK261.out 1).trans rfl; have hfz220_0 := blk_frozen BK261.out 0; have hfz220_1 := blk_frozen BK261.out 1) | (go_at_call 26; (with_reducible refine (clock_After.calls kj13 t257 _ _ t258 t263 a5 false _ ?side1 ?side2 A137.out).mono ?_); (case side1 => repeat (first | exact (Kd.R_reads' HO_262001.out).2.2 | (with_reducible refine Kd.C_alloc ?_ _) | (with_reducible refine Kd.C_drewN ?_ _) | (with_reducible refine Kd.C_drew ?_))); (case side2 => exact (Kd.R_reads' HO_262001.out).2.1); rintro e w221 ⟨rfl, hb⟩; have n0_ := Aside0.mk (Kd.R_below (by (with_reducible repeat (first | apply Kd.R_alloc | apply Kd.R_drewN | apply Kd.R_drew)); exact HO_262001.out) hb); have n1_ := Aside0.mk (blk_below (g := gb261) (o := .cells #[.int .i64 t257, .slice Ao19 t258.length co19] 24 (0, 0)) (by (with_reducible repeat (first | refine blk_drewN ?_ _ | refine blk_drew ?_ | refine blk_alloc ?_ _)); exact BK261.out) hb); have n2_ := Aside0.mk (below_step (by repeat (first | (with_reducible first | exact HB.out | apply below_alloc | apply pw_below_drewN | apply below_drew1 | refine below_set ?_ GE261.out) | exact HB.out)) hb); clear HO_262001; clear BK261; clear HB; have HO_262001 := n0_; have BK261 := n1_; have HB := n2_; clear n0_ n1_ n2_; (try clear hb); (try clear hb2); (try clear hk); (try clear hi); have hcz222_0 : w221.cell? ⟨gb261, 0, none⟩ = some (.int .i64 t257) := (blk_cell BK261.out 0).trans rfl; have hcz222_1 : w221.cell? ⟨gb261, 1, none⟩ = some (.slice Ao19 t258.length co19) := (blk_cell BK261.out 1).trans rfl; have hfz222_0 := blk_frozen BK261.out 0; have hfz222_1 := blk_frozen BK261.out 1) | (go_at_call 24; (with_reducible refine (clock_Before.calls kj13 t257 _ _ t258 t263 (wrap64 ((wrap64 (t262 + t271)) - 100)) false _ ?side1 ?side2 A189.out).mono ?_); (case side1 => repeat (first | exact (Kd.R_reads' HO_262001.out).2.2 | (with_reducible refine Kd.C_alloc ?_ _) | (with_reducible refine Kd.C_drewN ?_ _) | (with_reducible refine Kd.C_drew ?_))); (case side2 => exact (Kd.R_reads' HO_262001.out).2.1); rintro e w223 ⟨rfl, hb⟩; have n0_ := Aside0.mk (Kd.R_below (by (with_reducible repeat (first | apply Kd.R_alloc | apply Kd.R_drewN | apply Kd.R_drew)); exact HO_262001.out) hb); have n1_ := Aside0.mk (blk_below (g := gb261) (o := .cells #[.int .i64 t257, .slice Ao19 t258.length co19] 24 (0, 0)) (by (with_reducible repeat (first | refine blk_drewN ?_ _ | refine blk_drew ?_ | refine blk_alloc ?_ _)); exact BK261.out) hb); have n2_ := Aside0.mk (below_step (by repeat (first | (with_reducible first | exact HB.out | apply below_alloc | apply pw_below_drewN | apply below_drew1 | refine below_set ?_ GE261.out) | exact HB.out)) hb); clear HO_262001; clear BK261; clear HB; have HO_262001 := n0_; have BK261 := n1_; have HB := n2_; clear n0_ n1_ n2_; (try clear hb); (try clear hb2); (try clear hk); (try clear hi); have hcz224_0 : w223.cell? ⟨gb261, 0, none⟩ = some (.int .i64 t257) := (blk_cell BK261.out 0).trans rfl; have hcz224_1 : w223.cell? ⟨gb261, 1, none⟩ = some (.slice Ao19 t258.length co19) := (blk_cell BK261.out 1).trans rfl; have hfz224_0 := blk_frozen BK261.out 0; have hfz224_1 := blk_frozen BK261.out 1) | (go_at_call 26; (with_reducible refine (clock_After.calls kj13 t257 _ _ t258 t263 (wrap64 ((wrap64 (t262 + t271)) - 100)) true _ ?side1 ?side2 A216.out).mono ?_); (case side1 => repeat (first | exact (Kd.R_reads' HO_262001.out).2.2 | (with_reducible refine Kd.C_alloc ?_ _) | (with_reducible refine Kd.C_drewN ?_ _) | (with_reducible refine Kd.C_drew ?_))); (case side2 => exact (Kd.R_reads' HO_262001.out).2.1); rintro e w225 ⟨rfl, hb⟩; have n0_ := Aside0.mk (Kd.R_below (by (with_reducible repeat (first | apply Kd.R_alloc | apply Kd.R_drewN | apply Kd.R_drew)); exact HO_262001.out) hb); have n1_ := Aside0.mk (blk_below (g := gb261) (o := .cells #[.int .i64 t257, .slice Ao19 t258.length co19] 24 (0, 0)) (by (with_reducible repeat (first | refine blk_drewN ?_ _ | refine blk_drew ?_ | refine blk_alloc ?_ _)); exact BK261.out) hb); have n2_ := Aside0.mk (below_step (by repeat (first | (with_reducible first | exact HB.out | apply below_alloc | apply pw_below_drewN | apply below_drew1 | refine below_set ?_ GE261.out) | exact HB.out)) hb); clear HO_262001; clear BK261; clear HB; have HO_262001 := n0_; have BK261 := n1_; have HB := n2_; clear n0_ n1_ n2_; (try clear hb); (try clear hb2); (try clear hk); (try clear hi)))
                    go_meet
                    case rel => exact ⟨_, (decide (t262 ≤ (wrap64 ((wrap64 (t262 + t271)) - 100)))), (by first | rfl | (simp; done) | (simp [*]; done)), H', ⟨by have := HJ13.out; first | omega | exact Nat.le_refl _⟩, ⟨by (with_reducible repeat (first | apply Kd.R_alloc | apply Kd.R_drewN | apply Kd.R_drew)); exact HO_262001.out⟩, ⟨by (with_reducible repeat (first | refine blk_drewN ?_ _ | refine blk_drew ?_ | refine blk_alloc ?_ _)); exact BK261.out⟩, ⟨by repeat (first | (with_reducible first | exact HB.out | apply below_alloc | apply pw_below_drewN | apply below_drew1 | refine below_set ?_ GE261.out) | exact HB.out)⟩⟩
                  · replace c217 := Bool.eq_false_iff.mpr c217
                    subst c217
                    have H1 : (dialtonelaw05_ClockSound.j1 kj13 t262 t263 t264 t265 t267 t268 false) = some r := by rw [if_neg (show ¬ (false = true) by decide)] at H; exact H
                    clear H
                    have H := H1
                    clear H1
                    have H' := Aside0.mk H
                    clear H
                    have hcz226_0 : w34.cell? ⟨gb261, 0, none⟩ = some (.int .i64 t257) := (blk_cell BK261.out 0).trans rfl
                    have hcz226_1 : w34.cell? ⟨gb261, 1, none⟩ = some (.slice Ao19 t258.length co19) := (blk_cell BK261.out 1).trans rfl
                    have hfz226_0 := blk_frozen BK261.out 0
                    have hfz226_1 := blk_frozen BK261.out 1
                    go_wp2_with (first | ((with_reducible refine gate_callee (f := 24) rfl ?_); refine goesL_ (some 71) rfl rfl Try.func24 (by kernel_rfl) rfl #[.agg #[.int .i64 t257, .slice Ao19 t258.length co19], .int .i64 t263, .int .i64 a5] rfl (by (try simp only [List.map_toArray, List.map_cons, List.map_nil]); first | done | rfl | (simp only [List.length_drop, List.length_take]; rfl)) ?_; (with_reducible refine (clock_Before.calls kj13 t257 _ _ t258 t263 a5 false _ ?side1 ?side2 A35.out).mono ?_); (case side1 => repeat (first | exact (Kd.R_reads' HO_262001.out).2.2 | (with_reducible refine Kd.C_alloc ?_ _) | (with_reducible refine Kd.C_drewN ?_ _) | (with_reducible refine Kd.C_drew ?_))); (case side2 => exact (Kd.R_reads' HO_262001.out).2.1); rintro e w227 ⟨rfl, hb⟩; refine ⟨_, rfl, ?_⟩; have n0_ := Aside0.mk (Kd.R_below (by (with_reducible repeat (first | apply Kd.R_alloc | apply Kd.R_drewN | apply Kd.R_drew)); exact HO_262001.out) hb); have n1_ := Aside0.mk (blk_below (g := gb261) (o := .cells #[.int .i64 t257, .slice Ao19 t258.length co19] 24 (0, 0)) (by (with_reducible repeat (first | refine blk_drewN ?_ _ | refine blk_drew ?_ | refine blk_alloc ?_ _)); exact BK261.out) hb); have n2_ := Aside0.mk (below_step (by repeat (first | (with_reducible first | exact HB.out | apply below_alloc | apply pw_below_drewN | apply below_drew1 | refine below_set ?_ GE261.out) | exact HB.out)) hb); clear HO_262001; clear BK261; clear HB; have HO_262001 := n0_; have BK261 := n1_; have HB := n2_; clear n0_ n1_ n2_; (try clear hb); (try clear hb2); (try clear hk); (try clear hi); have hcz228_0 : w227.cell? ⟨gb261, 0, none⟩ = some (.int .i64 t257) := (blk_cell BK261.out 0).trans rfl; have hcz228_1 : w227.cell? ⟨gb261, 1, none⟩ = some (.slice Ao19 t258.length co19) := (blk_cell BK261.out 1).trans rfl; have hfz228_0 := blk_frozen BK261.out 0; have hfz228_1 := blk_frozen BK261.out 1) | (go_at_call 26; (with_reducible refine (clock_After.calls kj13 t257 _ _ t258 t263 a5 false _ ?side1 ?side2 A137.out).mono ?_); (case side1 => repeat (first | exact (Kd.R_reads' HO_262001.out).2.2 | (with_reducible refine Kd.C_alloc ?_ _) | (with_reducible refine Kd.C_drewN ?_ _) | (with_reducible refine Kd.C_drew ?_))); (case side2 => exact (Kd.R_reads' HO_262001.out).2.1); rintro e w229 ⟨rfl, hb⟩; have n0_ := Aside0.mk (Kd.R_below (by (with_reducible repeat (first | apply Kd.R_alloc | apply Kd.R_drewN | apply Kd.R_drew)); exact HO_262001.out) hb); have n1_ := Aside0.mk (blk_below (g := gb261) (o := .cells #[.int .i64 t257, .slice Ao19 t258.length co19] 24 (0, 0)) (by (with_reducible repeat (first | refine blk_drewN ?_ _ | refine blk_drew ?_ | refine blk_alloc ?_ _)); exact BK261.out) hb); have n2_ := Aside0.mk (below_step (by repeat (first | (with_reducible first | exact HB.out | apply below_alloc | apply pw_below_drewN | apply below_drew1 | refine below_set ?_ GE261.out) | exact HB.out)) hb); clear HO_262001; clear BK261; clear HB; have HO_262001 := n0_; have BK261 := n1_; have HB := n2_; clear n0_ n1_ n2_; (try clear hb); (try clear hb2); (try clear hk); (try clear hi); have hcz230_0 : w229.cell? ⟨gb261, 0, none⟩ = some (.int .i64 t257) := (blk_cell BK261.out 0).trans rfl; have hcz230_1 : w229.cell? ⟨gb261, 1, none⟩ = some (.slice Ao19 t258.length co19) := (blk_cell BK261.out 1).trans rfl; have hfz230_0 := blk_frozen BK261.out 0; have hfz230_1 := blk_frozen BK261.out 1) | (go_at_call 24; (with_reducible refine (clock_Before.calls kj13 t257 _ _ t258 t263 (wrap64 ((wrap64 (t262 + t271)) - 100)) false _ ?side1 ?side2 A189.out).mono ?_); (case side1 => repeat (first | exact (Kd.R_reads' HO_262001.out).2.2 | (with_reducible refine Kd.C_alloc ?_ _) | (with_reducible refine Kd.C_drewN ?_ _) | (with_reducible refine Kd.C_drew ?_))); (case side2 => exact (Kd.R_reads' HO_262001.out).2.1); rintro e w231 ⟨rfl, hb⟩; have n0_ := Aside0.mk (Kd.R_below (by (with_reducible repeat (first | apply Kd.R_alloc | apply Kd.R_drewN | apply Kd.R_drew)); exact HO_262001.out) hb); have n1_ := Aside0.mk (blk_below (g := gb261) (o := .cells #[.int .i64 t257, .slice Ao19 t258.length co19] 24 (0, 0)) (by (with_reducible repeat (first | refine blk_drewN ?_ _ | refine blk_drew ?_ | refine blk_alloc ?_ _)); exact BK261.out) hb); have n2_ := Aside0.mk (below_step (by repeat (first | (with_reducible first | exact HB.out | apply below_alloc | apply pw_below_drewN | apply below_drew1 | refine below_set ?_ GE261.out) | exact HB.out)) hb); clear HO_262001; clear BK261; clear HB; have HO_262001 := n0_; have BK261 := n1_; have HB := n2_; clear n0_ n1_ n2_; (try clear hb); (try clear hb2); (try clear hk); (try clear hi); have hcz232_0 : w231.cell? ⟨gb261, 0, none⟩ = some (.int .i64 t257) := (blk_cell BK261.out 0).trans rfl; have hcz232_1 : w231.cell? ⟨gb261, 1, none⟩ = some (.slice Ao19 t258.length co19) := (blk_cell BK261.out 1).trans rfl; have hfz232_0 := blk_frozen BK261.out 0; have hfz232_1 := blk_frozen BK261.out 1) | (go_at_call 26; (with_reducible refine (clock_After.calls kj13 t257 _ _ t258 t263 (wrap64 ((wrap64 (t262 + t271)) - 100)) false _ ?side1 ?side2 A216.out).mono ?_); (case side1 => repeat (first | exact (Kd.R_reads' HO_262001.out).2.2 | (with_reducible refine Kd.C_alloc ?_ _) | (with_reducible refine Kd.C_drewN ?_ _) | (with_reducible refine Kd.C_drew ?_))); (case side2 => exact (Kd.R_reads' HO_262001.out).2.1); rintro e w233 ⟨rfl, hb⟩; have n0_ := Aside0.mk (Kd.R_below (by (with_reducible repeat (first | apply Kd.R_alloc | apply Kd.R_drewN | apply Kd.R_drew)); exact HO_262001.out) hb); have n1_ := Aside0.mk (blk_below (g := gb261) (o := .cells #[.int .i64 t257, .slice Ao19 t258.length co19] 24 (0, 0)) (by (with_reducible repeat (first | refine blk_drewN ?_ _ | refine blk_drew ?_ | refine blk_alloc ?_ _)); exact BK261.out) hb); have n2_ := Aside0.mk (below_step (by repeat (first | (with_reducible first | exact HB.out | apply below_alloc | apply pw_below_drewN | apply below_drew1 | refine below_set ?_ GE261.out) | exact HB.out)) hb); clear HO_262001; clear BK261; clear HB; have HO_262001 := n0_; have BK261 := n1_; have HB := n2_; clear n0_ n1_ n2_; (try clear hb); (try clear hb2); (try clear hk); (try clear hi)))
                    go_meet
                    case rel => exact ⟨_, (false), (by first | rfl | (simp; done) | (simp [*]; done)), H', ⟨by have := HJ13.out; first | omega | exact Nat.le_refl _⟩, ⟨by (with_reducible repeat (first | apply Kd.R_alloc | apply Kd.R_drewN | apply Kd.R_drew)); exact HO_262001.out⟩, ⟨by (with_reducible repeat (first | refine blk_drewN ?_ _ | refine blk_drew ?_ | refine blk_alloc ?_ _)); exact BK261.out⟩, ⟨by repeat (first | (with_reducible first | exact HB.out | apply below_alloc | apply pw_below_drewN | apply below_drew1 | refine below_set ?_ GE261.out) | exact HB.out)⟩⟩
          case rest =>
            clear HC33
            try clear c1
            try clear c2
            try clear p2
            try clear c3
            try clear c4
            try clear c5
            try clear p6
            try clear c7
            try clear c8
            try clear c9
            try clear c10
            try clear c12
            try clear c13
            try clear c14
            try clear c15
            try clear c16
            try clear c17
            try clear c19
            try clear c20
            try clear c21
            try clear c22
            try clear c24
            try clear c26
            try clear c26b0
            try clear c26b1
            try clear c27
            try clear c27b0
            try clear c27b1
            try clear c28
            try clear c31
            try clear c36
            try clear c37
            try clear c37b0
            try clear c41
            try clear c42
            try clear c42b0
            try clear c48
            try clear c49
            try clear c49b0
            try clear c57
            try clear p64
            try clear c75
            try clear c93
            try clear c94
            try clear c94b0
            try clear c102
            try clear c120
            try clear c138
            try clear c139
            try clear c139b0
            try clear c145
            try clear c146
            try clear c146b0
            try clear c154
            try clear c172
            try clear c190
            try clear c191
            try clear c191b0
            try clear c199
            try clear c217
            try clear hcz103_0
            try clear hcz103_1
            try clear hcz105_0
            try clear hcz105_1
            try clear hcz107_0
            try clear hcz107_1
            try clear hcz109_0
            try clear hcz109_1
            try clear hcz111_0
            try clear hcz111_1
            try clear hcz113_0
            try clear hcz113_1
            try clear hcz115_0
            try clear hcz115_1
            try clear hcz117_0
            try clear hcz117_1
            try clear hcz121_0
            try clear hcz121_1
            try clear hcz123_0
            try clear hcz123_1
            try clear hcz125_0
            try clear hcz125_1
            try clear hcz127_0
            try clear hcz127_1
            try clear hcz129_0
            try clear hcz129_1
            try clear hcz131_0
            try clear hcz131_1
            try clear hcz133_0
            try clear hcz133_1
            try clear hcz135_0
            try clear hcz135_1
            try clear hcz140_0
            try clear hcz140_1
            try clear hcz142_0
            try clear hcz142_1
            try clear hcz147_0
            try clear hcz147_1
            try clear hcz149_0
            try clear hcz149_1
            try clear hcz151_0
            try clear hcz151_1
            try clear hcz155_0
            try clear hcz155_1
            try clear hcz157_0
            try clear hcz157_1
            try clear hcz159_0
            try clear hcz159_1
            try clear hcz161_0
            try clear hcz161_1
            try clear hcz163_0
            try clear hcz163_1
            try clear hcz165_0
            try clear hcz165_1
            try clear hcz167_0
            try clear hcz167_1
            try clear hcz169_0
            try clear hcz169_1
            try clear hcz173_0
            try clear hcz173_1
            try clear hcz175_0
            try clear hcz175_1
            try clear hcz177_0
            try clear hcz177_1
            try clear hcz179_0
            try clear hcz179_1
            try clear hcz181_0
            try clear hcz181_1
            try clear hcz183_0
            try clear hcz183_1
            try clear hcz185_0
            try clear hcz185_1
            try clear hcz187_0
            try clear hcz187_1
            try clear hcz18_0
            try clear hcz18_1
            try clear hcz192_0
            try clear hcz192_1
            try clear hcz194_0
            try clear hcz194_1
            try clear hcz196_0
            try clear hcz196_1
            try clear hcz200_0
            try clear hcz200_1
            try clear hcz202_0
            try clear hcz202_1
            try clear hcz204_0
            try clear hcz204_1
            try clear hcz206_0
            try clear hcz206_1
            try clear hcz208_0
            try clear hcz208_1
            try clear hcz210_0
            try clear hcz210_1
            try clear hcz212_0
            try clear hcz212_1
            try clear hcz214_0
            try clear hcz214_1
            try clear hcz218_0
            try clear hcz218_1
            try clear hcz220_0
            try clear hcz220_1
            try clear hcz222_0
            try clear hcz222_1
            try clear hcz224_0
            try clear hcz224_1
            try clear hcz226_0
            try clear hcz226_1
            try clear hcz228_0
            try clear hcz228_1
            try clear hcz22_0
            try clear hcz22_1
            try clear hcz230_0
            try clear hcz230_1
            try clear hcz232_0
            try clear hcz232_1
            try clear hcz24_0
            try clear hcz24_1
            try clear hcz29_0
            try clear hcz29_1
            try clear hcz38_0
            try clear hcz38_1
            try clear hcz43_0
            try clear hcz43_1
            try clear hcz45_0
            try clear hcz45_1
            try clear hcz50_0
            try clear hcz50_1
            try clear hcz52_0
            try clear hcz52_1
            try clear hcz54_0
            try clear hcz54_1
            try clear hcz58_0
            try clear hcz58_1
            try clear hcz60_0
            try clear hcz60_1
            try clear hcz62_0
            try clear hcz62_1
            try clear hcz64_0
            try clear hcz64_1
            try clear hcz66_0
            try clear hcz66_1
            try clear hcz68_0
            try clear hcz68_1
            try clear hcz70_0
            try clear hcz70_1
            try clear hcz72_0
            try clear hcz72_1
            try clear hcz76_0
            try clear hcz76_1
            try clear hcz78_0
            try clear hcz78_1
            try clear hcz80_0
            try clear hcz80_1
            try clear hcz82_0
            try clear hcz82_1
            try clear hcz84_0
            try clear hcz84_1
            try clear hcz86_0
            try clear hcz86_1
            try clear hcz88_0
            try clear hcz88_1
            try clear hcz90_0
            try clear hcz90_1
            try clear hcz95_0
            try clear hcz95_1
            try clear hcz97_0
            try clear hcz97_1
            try clear hcz99_0
            try clear hcz99_1
            try clear hfz103_0
            try clear hfz103_1
            try clear hfz105_0
            try clear hfz105_1
            try clear hfz107_0
            try clear hfz107_1
            try clear hfz109_0
            try clear hfz109_1
            try clear hfz111_0
            try clear hfz111_1
            try clear hfz113_0
            try clear hfz113_1
            try clear hfz115_0
            try clear hfz115_1
            try clear hfz117_0
            try clear hfz117_1
            try clear hfz121_0
            try clear hfz121_1
            try clear hfz123_0
            try clear hfz123_1
            try clear hfz125_0
            try clear hfz125_1
            try clear hfz127_0
            try clear hfz127_1
            try clear hfz129_0
            try clear hfz129_1
            try clear hfz131_0
            try clear hfz131_1
            try clear hfz133_0
            try clear hfz133_1
            try clear hfz135_0
            try clear hfz135_1
            try clear hfz140_0
            try clear hfz140_1
            try clear hfz142_0
            try clear hfz142_1
            try clear hfz147_0
            try clear hfz147_1
            try clear hfz149_0
            try clear hfz149_1
            try clear hfz151_0
            try clear hfz151_1
            try clear hfz155_0
            try clear hfz155_1
            try clear hfz157_0
            try clear hfz157_1
            try clear hfz159_0
            try clear hfz159_1
            try clear hfz161_0
            try clear hfz161_1
            try clear hfz163_0
            try clear hfz163_1
            try clear hfz165_0
            try clear hfz165_1
            try clear hfz167_0
            try clear hfz167_1
            try clear hfz169_0
            try clear hfz169_1
            try clear hfz173_0
            try clear hfz173_1
            try clear hfz175_0
            try clear hfz175_1
            try clear hfz177_0
            try clear hfz177_1
            try clear hfz179_0
            try clear hfz179_1
            try clear hfz181_0
            try clear hfz181_1
            try clear hfz183_0
            try clear hfz183_1
            try clear hfz185_0
            try clear hfz185_1
            try clear hfz187_0
            try clear hfz187_1
            try clear hfz18_0
            try clear hfz18_1
            try clear hfz192_0
            try clear hfz192_1
            try clear hfz194_0
            try clear hfz194_1
            try clear hfz196_0
            try clear hfz196_1
            try clear hfz200_0
            try clear hfz200_1
            try clear hfz202_0
            try clear hfz202_1
            try clear hfz204_0
            try clear hfz204_1
            try clear hfz206_0
            try clear hfz206_1
            try clear hfz208_0
            try clear hfz208_1
            try clear hfz210_0
            try clear hfz210_1
            try clear hfz212_0
            try clear hfz212_1
            try clear hfz214_0
            try clear hfz214_1
            try clear hfz218_0
            try clear hfz218_1
            try clear hfz220_0
            try clear hfz220_1
            try clear hfz222_0
            try clear hfz222_1
            try clear hfz224_0
            try clear hfz224_1
            try clear hfz226_0
            try clear hfz226_1
            try clear hfz228_0
            try clear hfz228_1
            try clear hfz22_0
            try clear hfz22_1
            try clear hfz230_0
            try clear hfz230_1
            try clear hfz232_0
            try clear hfz232_1
            try clear hfz24_0
            try clear hfz24_1
            try clear hfz29_0
            try clear hfz29_1
            try clear hfz38_0
            try clear hfz38_1
            try clear hfz43_0
            try clear hfz43_1
            try clear hfz45_0
            try clear hfz45_1
            try clear hfz50_0
            try clear hfz50_1
            try clear hfz52_0
            try clear hfz52_1
            try clear hfz54_0
            try clear hfz54_1
            try clear hfz58_0
            try clear hfz58_1
            try clear hfz60_0
            try clear hfz60_1
            try clear hfz62_0
            try clear hfz62_1
            try clear hfz64_0
            try clear hfz64_1
            try clear hfz66_0
            try clear hfz66_1
            try clear hfz68_0
            try clear hfz68_1
            try clear hfz70_0
            try clear hfz70_1
            try clear hfz72_0
            try clear hfz72_1
            try clear hfz76_0
            try clear hfz76_1
            try clear hfz78_0
            try clear hfz78_1
            try clear hfz80_0
            try clear hfz80_1
            try clear hfz82_0
            try clear hfz82_1
            try clear hfz84_0
            try clear hfz84_1
            try clear hfz86_0
            try clear hfz86_1
            try clear hfz88_0
            try clear hfz88_1
            try clear hfz90_0
            try clear hfz90_1
            try clear hfz95_0
            try clear hfz95_1
            try clear hfz97_0
            try clear hfz97_1
            try clear hfz99_0
            try clear hfz99_1
            try clear p2
            obtain ⟨kq, x109_32, rfl, HA, HJ32, HO_262001, BK261, HB⟩ := hcut
            cases kq with
            | zero => exact absurd HA.out (by simp [dialtonelaw05_ClockSound.j1])
            | succ kj32 =>
              have H := HA.out
              clear HA
              simp only [dialtonelaw05_ClockSound.j1] at H
              by_cases c234 : x109_32 = true
              · subst c234
                have H1 : (none) = some r := by rw [if_pos rfl] at H; exact H
                clear H
                have H := H1
                clear H1
                exact absurd H (by simp)
              · replace c234 := Bool.eq_false_iff.mpr c234
                subst c234
                have H1 : (if t264 ≤ t262 then (if t262 ≤ t265 then (if t267 ≤ t263 then (some (decide (t263 ≤ t268))) else (none)) else (none)) else (none)) = some r := by rw [if_neg (show ¬ (false = true) by decide)] at H; exact H
                clear H
                have H := H1
                clear H1
                by_cases c235 : t264 ≤ t262
                · rw [if_pos c235] at H
                  have c235b0 : decide (t264 ≤ t262) = true := decide_eq_true c235
                  clear c235
                  by_cases c236 : t262 ≤ t265
                  · rw [if_pos c236] at H
                    have c236b0 : decide (t262 ≤ t265) = true := decide_eq_true c236
                    clear c236
                    by_cases c237 : t267 ≤ t263
                    · rw [if_pos c237] at H
                      have c237b0 : decide (t267 ≤ t263) = true := decide_eq_true c237
                      clear c237
                      obtain rfl := Option.some.inj H
                      go_wp2
                      go_ret
                      exact ⟨by first | rfl | (simp [errW_none, errW_some] <;> rfl) | (simp [*, errW_none, errW_some] <;> rfl), by repeat (first | (with_reducible first | exact HB.out | apply below_alloc | apply pw_below_drewN | apply below_drew1 | refine below_set ?_ GE261.out) | exact HB.out)⟩
                    · rw [if_neg c237] at H
                      exact absurd H (by simp)
                  · rw [if_neg c236] at H
                    exact absurd H (by simp)
                · rw [if_neg c235] at H
                  exact absurd H (by simp)
  · replace c8 := Bool.eq_false_iff.mpr c8
    subst c8
    have H1 : (none) = some r := by rw [if_neg (show ¬ (false = true) by decide)] at H; exact H
    clear H
    have H := H1
    clear H1
    exact absurd H (by simp)

end Go.Proofs.Ythbonailomfjlaa.C
