-- Written for this claim by a program of this session (wip/tools/hprint.py) out of the translation. Lean checks it.
import Derived.Test.YthbonailomfjlaaCKinds
import Derived.Test.YthbonailomfjlaaEq1
import Derived.Test.YthbonailomfjlaaCSpread
import Derived.Test.YthbonailomfjlaaCAgree
import Derived.Test.YthbonailomfjlaaCValid
import Derived.Test.YthbonailomfjlaaCAt
import Derived.Test.YthbonailomfjlaaCBefore
import Derived.Test.YthbonailomfjlaaHReads
namespace Go.Proofs.Ythbonailomfjlaa.C
open Go.RowKit Go.Proofs.YthbonailomfjlaaW.PrintWords Go.Proofs.YthbonailomfjlaaW.PrintLast Go.Proofs.YthbonailomfjlaaW.PrintMore
attribute [local go_sem] max2_int min2_int max_two min_two max_three min_three max_four min_four   -- for this text's walks alone
set_option linter.unusedVariables false
set_option linter.unusedSimpArgs false

attribute [local go_sem high] eqA32
/-! ### dialtonelaw05_sane: function 10 -/
mutual
def dialtonelaw05_sane.j0 : Nat → Int → Int → Int → Int → Int → Int → Int → Int → Int → Int → Bool → Int → List (S50) → Int → Int → Option (Bool)
 | 0, _, _, _, _, _, _, _, _, _, _, _, _, _, _, _ => none
 | k + 1, x8, x9, x10, x11, x12, x13, x14, x15, x16, x18, x19, x135000, x135001, x157000, x157001 => if x10 = 0 then (if x8 = 2100 then (if x9 = 2133 then (if x13 = 0 then (if x11 = 1877 then (dialtonelaw05_sane.j1 k x14 x15 x16 x18 x19 (x12 == 1910) x135000 x135001 x157000 x157001) else (dialtonelaw05_sane.j1 k x14 x15 x16 x18 x19 false x135000 x135001 x157000 x157001)) else (dialtonelaw05_sane.j1 k x14 x15 x16 x18 x19 false x135000 x135001 x157000 x157001)) else (dialtonelaw05_sane.j1 k x14 x15 x16 x18 x19 false x135000 x135001 x157000 x157001)) else (dialtonelaw05_sane.j1 k x14 x15 x16 x18 x19 false x135000 x135001 x157000 x157001)) else (dialtonelaw05_sane.j1 k x14 x15 x16 x18 x19 false x135000 x135001 x157000 x157001)
def dialtonelaw05_sane.j1 : Nat → Int → Int → Int → Int → Bool → Bool → Int → List (S50) → Int → Int → Option (Bool)
 | 0, _, _, _, _, _, _, _, _, _, _ => none
 | k + 1, x14, x15, x16, x18, x19, x20, x135000, x135001, x157000, x157001 => if x19 = true then (if x20 = true then (if x16 = 0 then (if x14 = 994 then (if x15 = 1006 then (if (x157000 == 8 && (x157001 == 9)) = true then (if x18 = 3 then ((clock_Valid.f k x135000 x135001).bind fun t157 => (if t157 = true then ((clock_Before.f k x135000 x135001 890 1911).bind fun t158 => (if t158 = true then ((clock_Before.f k x135000 x135001 890 1910).bind fun t159 => (if t159 = true then (none) else ((clock_After.f k x135000 x135001 1110 2099).bind fun t160 => (if t160 = true then ((clock_After.f k x135000 x135001 1110 2100).bind fun t161 => (some (!t161))) else (none))))) else (none))) else (none))) else (none)) else (none)) else (none)) else (none)) else (none)) else (none)) else (none)
end
def dialtonelaw05_sane.f (k : Nat)  : Option (Bool) := (some (([(⟨1000, 2000, 2010⟩ : S50)] : List (S50)) : List (S50))).bind fun y131 => ((clock_Spread.f k 0 7).bind fun bt135 => ((clock_Spread.f k 100 0).bind fun bt137 => ((clock_Spread.f k 100 110).bind fun bt139 => ((clock_At.f k 100 y131 1110).bind fun bt141 => ((clock_At.f k 100 y131 890).bind fun bt144 => ((clock_Reads.f 100 y131 2005).bind fun bt147 => ((clock_Agree.f k (([(⟨0, 10⟩ : S32), (⟨5, 15⟩ : S32), (⟨8, 9⟩ : S32), (⟨12, 20⟩ : S32)] : List (S32)))).bind fun bt153 => (if bt135.1 = 7 then (if bt135.2 = 7 then (if bt137.1 = 0 then (if bt137.2 = 1 then (if bt139.1 = 100 then (dialtonelaw05_sane.j0 k bt141.1 bt141.2.1 bt141.2.2 bt144.1 bt144.2.1 bt144.2.2 bt147.1 bt147.2.1 bt147.2.2 bt153.2.2 (bt139.2 == 123) 100 y131 bt153.1 bt153.2.1) else (dialtonelaw05_sane.j0 k bt141.1 bt141.2.1 bt141.2.2 bt144.1 bt144.2.1 bt144.2.2 bt147.1 bt147.2.1 bt147.2.2 bt153.2.2 false 100 y131 bt153.1 bt153.2.1)) else (dialtonelaw05_sane.j0 k bt141.1 bt141.2.1 bt141.2.2 bt144.1 bt144.2.1 bt144.2.2 bt147.1 bt147.2.1 bt147.2.2 bt153.2.2 false 100 y131 bt153.1 bt153.2.1)) else (dialtonelaw05_sane.j0 k bt141.1 bt141.2.1 bt141.2.2 bt144.1 bt144.2.1 bt144.2.2 bt147.1 bt147.2.1 bt147.2.2 bt153.2.2 false 100 y131 bt153.1 bt153.2.1)) else (dialtonelaw05_sane.j0 k bt141.1 bt141.2.1 bt141.2.2 bt144.1 bt144.2.1 bt144.2.2 bt147.1 bt147.2.1 bt147.2.2 bt153.2.2 false 100 y131 bt153.1 bt153.2.1)) else (dialtonelaw05_sane.j0 k bt141.1 bt141.2.1 bt141.2.2 bt144.1 bt144.2.1 bt144.2.2 bt147.1 bt147.2.1 bt147.2.2 bt153.2.2 false 100 y131 bt153.1 bt153.2.1)))))))))
theorem dialtonelaw05_sane.mono_l : ∀ k, (∀ y0 y1 y2 y3 y4 y5 y6 y7 y8 y9 y10 y11 y12 y13 y14, LeO (dialtonelaw05_sane.j0 k y0 y1 y2 y3 y4 y5 y6 y7 y8 y9 y10 y11 y12 y13 y14) (dialtonelaw05_sane.j0 (k + 1) y0 y1 y2 y3 y4 y5 y6 y7 y8 y9 y10 y11 y12 y13 y14)) ∧ (∀ y0 y1 y2 y3 y4 y5 y6 y7 y8 y9, LeO (dialtonelaw05_sane.j1 k y0 y1 y2 y3 y4 y5 y6 y7 y8 y9) (dialtonelaw05_sane.j1 (k + 1) y0 y1 y2 y3 y4 y5 y6 y7 y8 y9))
 | 0 => ⟨fun _ _ _ _ _ _ _ _ _ _ _ _ _ _ _ r h => by simp [dialtonelaw05_sane.j0] at h, fun _ _ _ _ _ _ _ _ _ _ r h => by simp [dialtonelaw05_sane.j1] at h⟩
 | k + 1 => by
  obtain ⟨ih0, ih1⟩ := dialtonelaw05_sane.mono_l k
  refine ⟨?_, ?_⟩
  ·
   intro y0 y1 y2 y3 y4 y5 y6 y7 y8 y9 y10 y11 y12 y13 y14
   unfold dialtonelaw05_sane.j0
   repeat' first
   | (with_reducible exact ih0 _ _ _ _ _ _ _ _ _ _ _ _ _ _ _)
   | (with_reducible exact ih1 _ _ _ _ _ _ _ _ _ _)
   | (with_reducible exact clock_After.mono _ _ _ _ _)
   | (with_reducible exact clock_Agree.mono _ _)
   | (with_reducible exact clock_At.mono _ _ _ _)
   | (with_reducible exact clock_Before.mono _ _ _ _ _)
   | (with_reducible exact clock_Spread.mono _ _ _)
   | (with_reducible exact clock_Valid.mono _ _ _)
   | (with_reducible exact LeO.refl _)
   | (with_reducible exact LeO.none _)
   | (with_reducible refine LeO.ite ?_ ?_)
   | (with_reducible refine LeO.bind ?_ (fun _ => ?_))
   | exact ih0 _ _ _ _ _ _ _ _ _ _ _ _ _ _ _
   | exact ih1 _ _ _ _ _ _ _ _ _ _
   | exact clock_After.mono _ _ _ _ _
   | exact clock_Agree.mono _ _
   | exact clock_At.mono _ _ _ _
   | exact clock_Before.mono _ _ _ _ _
   | exact clock_Spread.mono _ _ _
   | exact clock_Valid.mono _ _ _
   | exact LeO.none _
   | refine LeO.ite ?_ ?_
   | refine LeO.bind ?_ (fun _ => ?_)
  ·
   intro y0 y1 y2 y3 y4 y5 y6 y7 y8 y9
   unfold dialtonelaw05_sane.j1
   repeat' first
   | (with_reducible exact ih0 _ _ _ _ _ _ _ _ _ _ _ _ _ _ _)
   | (with_reducible exact ih1 _ _ _ _ _ _ _ _ _ _)
   | (with_reducible exact clock_After.mono _ _ _ _ _)
   | (with_reducible exact clock_Agree.mono _ _)
   | (with_reducible exact clock_At.mono _ _ _ _)
   | (with_reducible exact clock_Before.mono _ _ _ _ _)
   | (with_reducible exact clock_Spread.mono _ _ _)
   | (with_reducible exact clock_Valid.mono _ _ _)
   | (with_reducible exact LeO.refl _)
   | (with_reducible exact LeO.none _)
   | (with_reducible refine LeO.ite ?_ ?_)
   | (with_reducible refine LeO.bind ?_ (fun _ => ?_))
   | exact ih0 _ _ _ _ _ _ _ _ _ _ _ _ _ _ _
   | exact ih1 _ _ _ _ _ _ _ _ _ _
   | exact clock_After.mono _ _ _ _ _
   | exact clock_Agree.mono _ _
   | exact clock_At.mono _ _ _ _
   | exact clock_Before.mono _ _ _ _ _
   | exact clock_Spread.mono _ _ _
   | exact clock_Valid.mono _ _ _
   | exact LeO.none _
   | refine LeO.ite ?_ ?_
   | refine LeO.bind ?_ (fun _ => ?_)
theorem dialtonelaw05_sane.mono : ∀ k, LeO (dialtonelaw05_sane.f k ) (dialtonelaw05_sane.f (k + 1) ) := by
 intro  k
 obtain ⟨ih0, ih1⟩ := dialtonelaw05_sane.mono_l k
 unfold dialtonelaw05_sane.f
 repeat' first
   | (with_reducible exact ih0 _ _ _ _ _ _ _ _ _ _ _ _ _ _ _)
   | (with_reducible exact ih1 _ _ _ _ _ _ _ _ _ _)
   | (with_reducible exact clock_After.mono _ _ _ _ _)
   | (with_reducible exact clock_Agree.mono _ _)
   | (with_reducible exact clock_At.mono _ _ _ _)
   | (with_reducible exact clock_Before.mono _ _ _ _ _)
   | (with_reducible exact clock_Spread.mono _ _ _)
   | (with_reducible exact clock_Valid.mono _ _ _)
   | (with_reducible exact LeO.refl _)
   | (with_reducible exact LeO.none _)
   | (with_reducible refine LeO.ite ?_ ?_)
   | (with_reducible refine LeO.bind ?_ (fun _ => ?_))
   | exact ih0 _ _ _ _ _ _ _ _ _ _ _ _ _ _ _
   | exact ih1 _ _ _ _ _ _ _ _ _ _
   | exact clock_After.mono _ _ _ _ _
   | exact clock_Agree.mono _ _
   | exact clock_At.mono _ _ _ _
   | exact clock_Before.mono _ _ _ _ _
   | exact clock_Spread.mono _ _ _
   | exact clock_Valid.mono _ _ _
   | exact LeO.none _
   | refine LeO.ite ?_ ?_
   | refine LeO.bind ?_ (fun _ => ?_)
set_option maxHeartbeats 8000000 in
set_option maxRecDepth 100000 in
theorem dialtonelaw05_sane.calls (k : Nat)  (r : Bool) (w : World) (h : dialtonelaw05_sane.f k  = some r) :
  Calls Try.prog 10 #[] w fun e w' => e = .returned (.bool r) ∧ Below w.heap.size w w' := by
 have hu50 := Try.underlying50
 have hu24 := Try.underlying24
 have hu32 := Try.underlying32
 have HB := Aside0.mk (Below.refl w.heap.size w)
 have H : ((some (([(⟨1000, 2000, 2010⟩ : S50)] : List (S50)) : List (S50))).bind fun y131 => ((clock_Spread.f k 0 7).bind fun bt135 => ((clock_Spread.f k 100 0).bind fun bt137 => ((clock_Spread.f k 100 110).bind fun bt139 => ((clock_At.f k 100 y131 1110).bind fun bt141 => ((clock_At.f k 100 y131 890).bind fun bt144 => ((clock_Reads.f 100 y131 2005).bind fun bt147 => ((clock_Agree.f k (([(⟨0, 10⟩ : S32), (⟨5, 15⟩ : S32), (⟨8, 9⟩ : S32), (⟨12, 20⟩ : S32)] : List (S32)))).bind fun bt153 => (if bt135.1 = 7 then (if bt135.2 = 7 then (if bt137.1 = 0 then (if bt137.2 = 1 then (if bt139.1 = 100 then (dialtonelaw05_sane.j0 k bt141.1 bt141.2.1 bt141.2.2 bt144.1 bt144.2.1 bt144.2.2 bt147.1 bt147.2.1 bt147.2.2 bt153.2.2 (bt139.2 == 123) 100 y131 bt153.1 bt153.2.1) else (dialtonelaw05_sane.j0 k bt141.1 bt141.2.1 bt141.2.2 bt144.1 bt144.2.1 bt144.2.2 bt147.1 bt147.2.1 bt147.2.2 bt153.2.2 false 100 y131 bt153.1 bt153.2.1)) else (dialtonelaw05_sane.j0 k bt141.1 bt141.2.1 bt141.2.2 bt144.1 bt144.2.1 bt144.2.2 bt147.1 bt147.2.1 bt147.2.2 bt153.2.2 false 100 y131 bt153.1 bt153.2.1)) else (dialtonelaw05_sane.j0 k bt141.1 bt141.2.1 bt141.2.2 bt144.1 bt144.2.1 bt144.2.2 bt147.1 bt147.2.1 bt147.2.2 bt153.2.2 false 100 y131 bt153.1 bt153.2.1)) else (dialtonelaw05_sane.j0 k bt141.1 bt141.2.1 bt141.2.2 bt144.1 bt144.2.1 bt144.2.2 bt147.1 bt147.2.1 bt147.2.2 bt153.2.2 false 100 y131 bt153.1 bt153.2.1)) else (dialtonelaw05_sane.j0 k bt141.1 bt141.2.1 bt141.2.2 bt144.1 bt144.2.1 bt144.2.2 bt147.1 bt147.2.1 bt147.2.2 bt153.2.2 false 100 y131 bt153.1 bt153.2.1)))))))))) = some r := h
 clear h
 obtain ⟨y131, hy131⟩ : ∃ y_ : List (S50), y_ = (([(⟨1000, 2000, 2010⟩ : S50)] : List (S50))) := ⟨_, rfl⟩
 replace H : ((clock_Spread.f k 0 7).bind fun bt135 => ((clock_Spread.f k 100 0).bind fun bt137 => ((clock_Spread.f k 100 110).bind fun bt139 => ((clock_At.f k 100 y131 1110).bind fun bt141 => ((clock_At.f k 100 y131 890).bind fun bt144 => ((clock_Reads.f 100 y131 2005).bind fun bt147 => ((clock_Agree.f k (([(⟨0, 10⟩ : S32), (⟨5, 15⟩ : S32), (⟨8, 9⟩ : S32), (⟨12, 20⟩ : S32)] : List (S32)))).bind fun bt153 => (if bt135.1 = 7 then (if bt135.2 = 7 then (if bt137.1 = 0 then (if bt137.2 = 1 then (if bt139.1 = 100 then (dialtonelaw05_sane.j0 k bt141.1 bt141.2.1 bt141.2.2 bt144.1 bt144.2.1 bt144.2.2 bt147.1 bt147.2.1 bt147.2.2 bt153.2.2 (bt139.2 == 123) 100 y131 bt153.1 bt153.2.1) else (dialtonelaw05_sane.j0 k bt141.1 bt141.2.1 bt141.2.2 bt144.1 bt144.2.1 bt144.2.2 bt147.1 bt147.2.1 bt147.2.2 bt153.2.2 false 100 y131 bt153.1 bt153.2.1)) else (dialtonelaw05_sane.j0 k bt141.1 bt141.2.1 bt141.2.2 bt144.1 bt144.2.1 bt144.2.2 bt147.1 bt147.2.1 bt147.2.2 bt153.2.2 false 100 y131 bt153.1 bt153.2.1)) else (dialtonelaw05_sane.j0 k bt141.1 bt141.2.1 bt141.2.2 bt144.1 bt144.2.1 bt144.2.2 bt147.1 bt147.2.1 bt147.2.2 bt153.2.2 false 100 y131 bt153.1 bt153.2.1)) else (dialtonelaw05_sane.j0 k bt141.1 bt141.2.1 bt141.2.2 bt144.1 bt144.2.1 bt144.2.2 bt147.1 bt147.2.1 bt147.2.2 bt153.2.2 false 100 y131 bt153.1 bt153.2.1)) else (dialtonelaw05_sane.j0 k bt141.1 bt141.2.1 bt141.2.2 bt144.1 bt144.2.1 bt144.2.2 bt147.1 bt147.2.1 bt147.2.2 bt153.2.2 false 100 y131 bt153.1 bt153.2.1))))))))) = some r := by first | (rw [hy131]; with_reducible exact H) | (have H2_ := (Option.bind_some _ _).symm.trans H; rw [hy131]; with_reducible exact H2_) | (have H2_ := (Option.bind_some _ _).symm.trans H; with_reducible exact H2_) | with_reducible exact H | (rw [hy131]; exact H) | exact H
 have Ny131 := Aside0.mk hy131
 clear hy131
 replace H := Option.bind_eq_some_iff.mp H
 obtain ⟨⟨t135, t136⟩, A10, H⟩ := H
 replace H : ((clock_Spread.f k 100 0).bind fun bt137 => ((clock_Spread.f k 100 110).bind fun bt139 => ((clock_At.f k 100 y131 1110).bind fun bt141 => ((clock_At.f k 100 y131 890).bind fun bt144 => ((clock_Reads.f 100 y131 2005).bind fun bt147 => ((clock_Agree.f k (([(⟨0, 10⟩ : S32), (⟨5, 15⟩ : S32), (⟨8, 9⟩ : S32), (⟨12, 20⟩ : S32)] : List (S32)))).bind fun bt153 => (if t135 = 7 then (if t136 = 7 then (if bt137.1 = 0 then (if bt137.2 = 1 then (if bt139.1 = 100 then (dialtonelaw05_sane.j0 k bt141.1 bt141.2.1 bt141.2.2 bt144.1 bt144.2.1 bt144.2.2 bt147.1 bt147.2.1 bt147.2.2 bt153.2.2 (bt139.2 == 123) 100 y131 bt153.1 bt153.2.1) else (dialtonelaw05_sane.j0 k bt141.1 bt141.2.1 bt141.2.2 bt144.1 bt144.2.1 bt144.2.2 bt147.1 bt147.2.1 bt147.2.2 bt153.2.2 false 100 y131 bt153.1 bt153.2.1)) else (dialtonelaw05_sane.j0 k bt141.1 bt141.2.1 bt141.2.2 bt144.1 bt144.2.1 bt144.2.2 bt147.1 bt147.2.1 bt147.2.2 bt153.2.2 false 100 y131 bt153.1 bt153.2.1)) else (dialtonelaw05_sane.j0 k bt141.1 bt141.2.1 bt141.2.2 bt144.1 bt144.2.1 bt144.2.2 bt147.1 bt147.2.1 bt147.2.2 bt153.2.2 false 100 y131 bt153.1 bt153.2.1)) else (dialtonelaw05_sane.j0 k bt141.1 bt141.2.1 bt141.2.2 bt144.1 bt144.2.1 bt144.2.2 bt147.1 bt147.2.1 bt147.2.2 bt153.2.2 false 100 y131 bt153.1 bt153.2.1)) else (dialtonelaw05_sane.j0 k bt141.1 bt141.2.1 bt141.2.2 bt144.1 bt144.2.1 bt144.2.2 bt147.1 bt147.2.1 bt147.2.2 bt153.2.2 false 100 y131 bt153.1 bt153.2.1)))))))) = some r := H
 have A1 := Aside0.mk A10
 clear A10
 replace H := Option.bind_eq_some_iff.mp H
 obtain ⟨⟨t137, t138⟩, A20, H⟩ := H
 replace H : ((clock_Spread.f k 100 110).bind fun bt139 => ((clock_At.f k 100 y131 1110).bind fun bt141 => ((clock_At.f k 100 y131 890).bind fun bt144 => ((clock_Reads.f 100 y131 2005).bind fun bt147 => ((clock_Agree.f k (([(⟨0, 10⟩ : S32), (⟨5, 15⟩ : S32), (⟨8, 9⟩ : S32), (⟨12, 20⟩ : S32)] : List (S32)))).bind fun bt153 => (if t135 = 7 then (if t136 = 7 then (if t137 = 0 then (if t138 = 1 then (if bt139.1 = 100 then (dialtonelaw05_sane.j0 k bt141.1 bt141.2.1 bt141.2.2 bt144.1 bt144.2.1 bt144.2.2 bt147.1 bt147.2.1 bt147.2.2 bt153.2.2 (bt139.2 == 123) 100 y131 bt153.1 bt153.2.1) else (dialtonelaw05_sane.j0 k bt141.1 bt141.2.1 bt141.2.2 bt144.1 bt144.2.1 bt144.2.2 bt147.1 bt147.2.1 bt147.2.2 bt153.2.2 false 100 y131 bt153.1 bt153.2.1)) else (dialtonelaw05_sane.j0 k bt141.1 bt141.2.1 bt141.2.2 bt144.1 bt144.2.1 bt144.2.2 bt147.1 bt147.2.1 bt147.2.2 bt153.2.2 false 100 y131 bt153.1 bt153.2.1)) else (dialtonelaw05_sane.j0 k bt141.1 bt141.2.1 bt141.2.2 bt144.1 bt144.2.1 bt144.2.2 bt147.1 bt147.2.1 bt147.2.2 bt153.2.2 false 100 y131 bt153.1 bt153.2.1)) else (dialtonelaw05_sane.j0 k bt141.1 bt141.2.1 bt141.2.2 bt144.1 bt144.2.1 bt144.2.2 bt147.1 bt147.2.1 bt147.2.2 bt153.2.2 false 100 y131 bt153.1 bt153.2.1)) else (dialtonelaw05_sane.j0 k bt141.1 bt141.2.1 bt141.2.2 bt144.1 bt144.2.1 bt144.2.2 bt147.1 bt147.2.1 bt147.2.2 bt153.2.2 false 100 y131 bt153.1 bt153.2.1))))))) = some r := H
 have A2 := Aside0.mk A20
 clear A20
 replace H := Option.bind_eq_some_iff.mp H
 obtain ⟨⟨t139, t140⟩, A30, H⟩ := H
 replace H : ((clock_At.f k 100 y131 1110).bind fun bt141 => ((clock_At.f k 100 y131 890).bind fun bt144 => ((clock_Reads.f 100 y131 2005).bind fun bt147 => ((clock_Agree.f k (([(⟨0, 10⟩ : S32), (⟨5, 15⟩ : S32), (⟨8, 9⟩ : S32), (⟨12, 20⟩ : S32)] : List (S32)))).bind fun bt153 => (if t135 = 7 then (if t136 = 7 then (if t137 = 0 then (if t138 = 1 then (if t139 = 100 then (dialtonelaw05_sane.j0 k bt141.1 bt141.2.1 bt141.2.2 bt144.1 bt144.2.1 bt144.2.2 bt147.1 bt147.2.1 bt147.2.2 bt153.2.2 (t140 == 123) 100 y131 bt153.1 bt153.2.1) else (dialtonelaw05_sane.j0 k bt141.1 bt141.2.1 bt141.2.2 bt144.1 bt144.2.1 bt144.2.2 bt147.1 bt147.2.1 bt147.2.2 bt153.2.2 false 100 y131 bt153.1 bt153.2.1)) else (dialtonelaw05_sane.j0 k bt141.1 bt141.2.1 bt141.2.2 bt144.1 bt144.2.1 bt144.2.2 bt147.1 bt147.2.1 bt147.2.2 bt153.2.2 false 100 y131 bt153.1 bt153.2.1)) else (dialtonelaw05_sane.j0 k bt141.1 bt141.2.1 bt141.2.2 bt144.1 bt144.2.1 bt144.2.2 bt147.1 bt147.2.1 bt147.2.2 bt153.2.2 false 100 y131 bt153.1 bt153.2.1)) else (dialtonelaw05_sane.j0 k bt141.1 bt141.2.1 bt141.2.2 bt144.1 bt144.2.1 bt144.2.2 bt147.1 bt147.2.1 bt147.2.2 bt153.2.2 false 100 y131 bt153.1 bt153.2.1)) else (dialtonelaw05_sane.j0 k bt141.1 bt141.2.1 bt141.2.2 bt144.1 bt144.2.1 bt144.2.2 bt147.1 bt147.2.1 bt147.2.2 bt153.2.2 false 100 y131 bt153.1 bt153.2.1)))))) = some r := H
 have A3 := Aside0.mk A30
 clear A30
 replace H := Option.bind_eq_some_iff.mp H
 obtain ⟨⟨t141, t142, t143⟩, A40, H⟩ := H
 replace H : ((clock_At.f k 100 y131 890).bind fun bt144 => ((clock_Reads.f 100 y131 2005).bind fun bt147 => ((clock_Agree.f k (([(⟨0, 10⟩ : S32), (⟨5, 15⟩ : S32), (⟨8, 9⟩ : S32), (⟨12, 20⟩ : S32)] : List (S32)))).bind fun bt153 => (if t135 = 7 then (if t136 = 7 then (if t137 = 0 then (if t138 = 1 then (if t139 = 100 then (dialtonelaw05_sane.j0 k t141 t142 t143 bt144.1 bt144.2.1 bt144.2.2 bt147.1 bt147.2.1 bt147.2.2 bt153.2.2 (t140 == 123) 100 y131 bt153.1 bt153.2.1) else (dialtonelaw05_sane.j0 k t141 t142 t143 bt144.1 bt144.2.1 bt144.2.2 bt147.1 bt147.2.1 bt147.2.2 bt153.2.2 false 100 y131 bt153.1 bt153.2.1)) else (dialtonelaw05_sane.j0 k t141 t142 t143 bt144.1 bt144.2.1 bt144.2.2 bt147.1 bt147.2.1 bt147.2.2 bt153.2.2 false 100 y131 bt153.1 bt153.2.1)) else (dialtonelaw05_sane.j0 k t141 t142 t143 bt144.1 bt144.2.1 bt144.2.2 bt147.1 bt147.2.1 bt147.2.2 bt153.2.2 false 100 y131 bt153.1 bt153.2.1)) else (dialtonelaw05_sane.j0 k t141 t142 t143 bt144.1 bt144.2.1 bt144.2.2 bt147.1 bt147.2.1 bt147.2.2 bt153.2.2 false 100 y131 bt153.1 bt153.2.1)) else (dialtonelaw05_sane.j0 k t141 t142 t143 bt144.1 bt144.2.1 bt144.2.2 bt147.1 bt147.2.1 bt147.2.2 bt153.2.2 false 100 y131 bt153.1 bt153.2.1))))) = some r := H
 have A4 := Aside0.mk A40
 clear A40
 replace H := Option.bind_eq_some_iff.mp H
 obtain ⟨⟨t144, t145, t146⟩, A50, H⟩ := H
 replace H : ((clock_Reads.f 100 y131 2005).bind fun bt147 => ((clock_Agree.f k (([(⟨0, 10⟩ : S32), (⟨5, 15⟩ : S32), (⟨8, 9⟩ : S32), (⟨12, 20⟩ : S32)] : List (S32)))).bind fun bt153 => (if t135 = 7 then (if t136 = 7 then (if t137 = 0 then (if t138 = 1 then (if t139 = 100 then (dialtonelaw05_sane.j0 k t141 t142 t143 t144 t145 t146 bt147.1 bt147.2.1 bt147.2.2 bt153.2.2 (t140 == 123) 100 y131 bt153.1 bt153.2.1) else (dialtonelaw05_sane.j0 k t141 t142 t143 t144 t145 t146 bt147.1 bt147.2.1 bt147.2.2 bt153.2.2 false 100 y131 bt153.1 bt153.2.1)) else (dialtonelaw05_sane.j0 k t141 t142 t143 t144 t145 t146 bt147.1 bt147.2.1 bt147.2.2 bt153.2.2 false 100 y131 bt153.1 bt153.2.1)) else (dialtonelaw05_sane.j0 k t141 t142 t143 t144 t145 t146 bt147.1 bt147.2.1 bt147.2.2 bt153.2.2 false 100 y131 bt153.1 bt153.2.1)) else (dialtonelaw05_sane.j0 k t141 t142 t143 t144 t145 t146 bt147.1 bt147.2.1 bt147.2.2 bt153.2.2 false 100 y131 bt153.1 bt153.2.1)) else (dialtonelaw05_sane.j0 k t141 t142 t143 t144 t145 t146 bt147.1 bt147.2.1 bt147.2.2 bt153.2.2 false 100 y131 bt153.1 bt153.2.1)))) = some r := H
 have A5 := Aside0.mk A50
 clear A50
 replace H := Option.bind_eq_some_iff.mp H
 obtain ⟨⟨t147, t148, t149⟩, A60, H⟩ := H
 replace H : ((clock_Agree.f k (([(⟨0, 10⟩ : S32), (⟨5, 15⟩ : S32), (⟨8, 9⟩ : S32), (⟨12, 20⟩ : S32)] : List (S32)))).bind fun bt153 => (if t135 = 7 then (if t136 = 7 then (if t137 = 0 then (if t138 = 1 then (if t139 = 100 then (dialtonelaw05_sane.j0 k t141 t142 t143 t144 t145 t146 t147 t148 t149 bt153.2.2 (t140 == 123) 100 y131 bt153.1 bt153.2.1) else (dialtonelaw05_sane.j0 k t141 t142 t143 t144 t145 t146 t147 t148 t149 bt153.2.2 false 100 y131 bt153.1 bt153.2.1)) else (dialtonelaw05_sane.j0 k t141 t142 t143 t144 t145 t146 t147 t148 t149 bt153.2.2 false 100 y131 bt153.1 bt153.2.1)) else (dialtonelaw05_sane.j0 k t141 t142 t143 t144 t145 t146 t147 t148 t149 bt153.2.2 false 100 y131 bt153.1 bt153.2.1)) else (dialtonelaw05_sane.j0 k t141 t142 t143 t144 t145 t146 t147 t148 t149 bt153.2.2 false 100 y131 bt153.1 bt153.2.1)) else (dialtonelaw05_sane.j0 k t141 t142 t143 t144 t145 t146 t147 t148 t149 bt153.2.2 false 100 y131 bt153.1 bt153.2.1))) = some r := H
 have A6 := Aside0.mk A60
 clear A60
 obtain ⟨y150, hy150⟩ : ∃ y_ : List (S32), y_ = (([(⟨0, 10⟩ : S32), (⟨5, 15⟩ : S32), (⟨8, 9⟩ : S32), (⟨12, 20⟩ : S32)] : List (S32))) := ⟨_, rfl⟩
 replace H : ((clock_Agree.f k y150).bind fun bt153 => (if t135 = 7 then (if t136 = 7 then (if t137 = 0 then (if t138 = 1 then (if t139 = 100 then (dialtonelaw05_sane.j0 k t141 t142 t143 t144 t145 t146 t147 t148 t149 bt153.2.2 (t140 == 123) 100 y131 bt153.1 bt153.2.1) else (dialtonelaw05_sane.j0 k t141 t142 t143 t144 t145 t146 t147 t148 t149 bt153.2.2 false 100 y131 bt153.1 bt153.2.1)) else (dialtonelaw05_sane.j0 k t141 t142 t143 t144 t145 t146 t147 t148 t149 bt153.2.2 false 100 y131 bt153.1 bt153.2.1)) else (dialtonelaw05_sane.j0 k t141 t142 t143 t144 t145 t146 t147 t148 t149 bt153.2.2 false 100 y131 bt153.1 bt153.2.1)) else (dialtonelaw05_sane.j0 k t141 t142 t143 t144 t145 t146 t147 t148 t149 bt153.2.2 false 100 y131 bt153.1 bt153.2.1)) else (dialtonelaw05_sane.j0 k t141 t142 t143 t144 t145 t146 t147 t148 t149 bt153.2.2 false 100 y131 bt153.1 bt153.2.1))) = some r := by first | (rw [hy150]; with_reducible exact H) | (have H2_ := (Option.bind_some _ _).symm.trans H; rw [hy150]; with_reducible exact H2_) | (have H2_ := (Option.bind_some _ _).symm.trans H; with_reducible exact H2_) | with_reducible exact H | (rw [hy150]; exact H) | exact H
 have Ny150 := Aside0.mk hy150
 clear hy150
 replace H := Option.bind_eq_some_iff.mp H
 obtain ⟨⟨t153, t154, t155⟩, A70, H⟩ := H
 replace H : (if t135 = 7 then (if t136 = 7 then (if t137 = 0 then (if t138 = 1 then (if t139 = 100 then (dialtonelaw05_sane.j0 k t141 t142 t143 t144 t145 t146 t147 t148 t149 t155 (t140 == 123) 100 y131 t153 t154) else (dialtonelaw05_sane.j0 k t141 t142 t143 t144 t145 t146 t147 t148 t149 t155 false 100 y131 t153 t154)) else (dialtonelaw05_sane.j0 k t141 t142 t143 t144 t145 t146 t147 t148 t149 t155 false 100 y131 t153 t154)) else (dialtonelaw05_sane.j0 k t141 t142 t143 t144 t145 t146 t147 t148 t149 t155 false 100 y131 t153 t154)) else (dialtonelaw05_sane.j0 k t141 t142 t143 t144 t145 t146 t147 t148 t149 t155 false 100 y131 t153 t154)) else (dialtonelaw05_sane.j0 k t141 t142 t143 t144 t145 t146 t147 t148 t149 t155 false 100 y131 t153 t154)) = some r := H
 have A7 := Aside0.mk A70
 clear A70
 have HC8 := Aside0.mk H
 clear H
 go_enter Try.func10, Try.ntmps10
 go_upto_region 9 with (first | ((with_reducible refine gate_dst (N := 22) rfl ?_); refine Kd.R_lit k50 _ 50 ?hg (N := 22) ?hd (xs := ([(⟨1000, 2000, 2010⟩ : S50)] : List (S50))) (inner := [.int .i64 1000, .int .i64 2000, .int .i64 2010]) (ok := fun _ => True) (okp := fun _ => True) ?hr ?hp (fun _ hk => hk) trivial (Below.refl _ _) (Nat.le_refl _) (by simp) ?_; (case hd => rfl); (case hg => rfl); (case hr => first | (go_simp; done) | (go_simp; rfl)); (case hp => exact (Reps.c3 (show Kd.M k50 _ _ _ (⟨1000, 2000, 2010⟩ : S50) [.int .i64 1000, .int .i64 2000, .int .i64 2010] from (k50_mkM _ _ _ (⟨1000, 2000, 2010⟩ : S50) )) (Reps.none _ _))); intro v132 w9 ho10 hb hg_ hnew_; clear hg_ hnew_; (first | rw [← Ny131.out] at ho10 | (simp only [Int.reduceToNat] at ho10; rw [← Ny131.out] at ho10)); have n0_ := Aside0.mk (Kd.R_lower ho10 (below_size (by repeat (first | (with_reducible first | exact HB.out | apply below_alloc | apply pw_below_drewN | apply below_drew1) | exact HB.out)))); have n1_ := Aside0.mk (below_step (by repeat (first | (with_reducible first | exact HB.out | apply below_alloc | apply pw_below_drewN | apply below_drew1) | exact HB.out)) hb); clear HB; have HO133 := n0_; have HB := n1_; clear n0_ n1_; clear hb ho10; obtain ⟨Ao11, co11, eo11⟩ := Kd.R_slice HO133.out; subst eo11) | ((with_reducible refine gate_dst (N := 1) rfl ?_); refine box_event ?hg (N := 1) ?hd (cs := #[.int .i64 0, .slice none 0 0]) (t := 24) ?hr ?_; (case hd => rfl); (case hg => rfl); (case hr => first | (go_simp; done) | (go_simp; rfl)); intro gb134 hg w12 hbox hb; have n0_ := Aside0.mk (Kd.R_below (by (with_reducible repeat (first | apply Kd.R_alloc | apply Kd.R_drewN | apply Kd.R_drew)); exact HO133.out) hb); have n1_ := Aside0.mk (below_step (by repeat (first | (with_reducible first | exact HB.out | apply below_alloc | apply pw_below_drewN | apply below_drew1) | exact HB.out)) hb); have n2_ := Aside0.mk (hbox); have n3_ := Aside0.mk ((by rw [hg]; exact (below_size (by repeat (first | (with_reducible first | exact HB.out | apply below_alloc | apply pw_below_drewN | apply below_drew1) | exact HB.out))) : w.heap.size ≤ gb134)); have n4_ := Aside0.mk ((by rw [hg]; exact (below_size (by repeat (first | (with_reducible first | exact HB.out | apply below_alloc | apply pw_below_drewN | apply below_drew1) | exact HB.out))) : w.heap.size ≤ gb134)); clear HO133; clear HB; have HO133 := n0_; have HB := n1_; have BK134 := n2_; have GW134 := n3_; have GE134 := n4_; clear n0_ n1_ n2_ n3_ n4_; clear hb hbox hg; have hcz13_0 : w12.cell? ⟨gb134, 0, none⟩ = some (.int .i64 0) := (blk_cell BK134.out 0).trans rfl; have hcz13_1 : w12.cell? ⟨gb134, 1, none⟩ = some (.slice none 0 0) := (blk_cell BK134.out 1).trans rfl; have hfz13_0 := blk_frozen BK134.out 0; have hfz13_1 := blk_frozen BK134.out 1) | ((with_reducible refine gate_callee (f := 11) rfl ?_); refine goesL_ (some 25) rfl rfl Try.func11 (by kernel_rfl) rfl #[.int .i64 0, .int .i64 7] rfl (by (try simp only [List.map_toArray, List.map_cons, List.map_nil]); first | done | rfl | (simp only [List.length_drop, List.length_take]; rfl)) ?_; (with_reducible refine (clock_Spread.calls k 0 7 t135 t136 _ A1.out).mono ?_); rintro e w' ⟨rfl, ⟨nd, rfl⟩⟩; refine ⟨_, rfl, ?_⟩) | ((with_reducible refine gate_callee (f := 11) rfl ?_); refine goesL_ (some 29) rfl rfl Try.func11 (by kernel_rfl) rfl #[.int .i64 100, .int .i64 0] rfl (by (try simp only [List.map_toArray, List.map_cons, List.map_nil]); first | done | rfl | (simp only [List.length_drop, List.length_take]; rfl)) ?_; (with_reducible refine (clock_Spread.calls k 100 0 t137 t138 _ A2.out).mono ?_); rintro e w' ⟨rfl, ⟨nd, rfl⟩⟩; refine ⟨_, rfl, ?_⟩) | ((with_reducible refine gate_callee (f := 11) rfl ?_); refine goesL_ (some 33) rfl rfl Try.func11 (by kernel_rfl) rfl #[.int .i64 100, .int .i64 110] rfl (by (try simp only [List.map_toArray, List.map_cons, List.map_nil]); first | done | rfl | (simp only [List.length_drop, List.length_take]; rfl)) ?_; (with_reducible refine (clock_Spread.calls k 100 110 t139 t140 _ A3.out).mono ?_); rintro e w' ⟨rfl, ⟨nd, rfl⟩⟩; refine ⟨_, rfl, ?_⟩) | ((with_reducible refine gate_callee (f := 20) rfl ?_); refine goesL_ (some 38) rfl rfl Try.func20 (by kernel_rfl) rfl #[.agg #[.int .i64 100, .slice Ao11 y131.length co11], .int .i64 1110] rfl (by (try simp only [List.map_toArray, List.map_cons, List.map_nil]); first | done | rfl | (simp only [List.length_drop, List.length_take]; rfl)) ?_; (with_reducible refine (clock_At.calls k 100 _ _ y131 1110 t141 t142 t143 _ ?side1 ?side2 A4.out).mono ?_); (case side1 => refine (Kd.R_reads' (e := 50) (base := w.heap.size) (ok := fun k_ => True) (n := y131.length) (c := co11) ?_).2.2; exact (by (with_reducible repeat (first | apply Kd.R_alloc | apply Kd.R_drewN | apply Kd.R_drew)); exact (Kd.R_mono (Kd.R_far (p := ⟨gb134, 1, none⟩) (Kd.R_far (p := ⟨gb134, 0, none⟩) (Kd.R_types HO133.out BK134.out (by decide)) (fun _ hk => hk.2) (.int .i64 100)) (fun _ hk => hk.2) (.slice Ao11 y131.length co11)) (fun _ h_ => h_.1)))); (case side2 => exact (Kd.R_reads' HO133.out).2.1); rintro e w14 ⟨rfl, hb⟩; refine ⟨_, rfl, ?_⟩; have n0_ := Aside0.mk (Kd.R_below (by (with_reducible repeat (first | apply Kd.R_alloc | apply Kd.R_drewN | apply Kd.R_drew)); exact (Kd.R_mono (Kd.R_far (p := ⟨gb134, 1, none⟩) (Kd.R_far (p := ⟨gb134, 0, none⟩) (Kd.R_types HO133.out BK134.out (by decide)) (fun _ hk => hk.2) (.int .i64 100)) (fun _ hk => hk.2) (.slice Ao11 y131.length co11)) (fun _ h_ => h_.1))) hb); have n1_ := Aside0.mk (blk_below (g := gb134) (o := .cells #[.int .i64 100, .slice Ao11 y131.length co11] 24 (0, 0)) (by (with_reducible repeat (first | refine blk_drewN ?_ _ | refine blk_drew ?_ | refine blk_alloc ?_ _)); refine blk_put (cs := #[.int .i64 100, .slice none 0 0]) ?_ 1 _ rfl; (with_reducible repeat (first | refine blk_drewN ?_ _ | refine blk_drew ?_ | refine blk_alloc ?_ _)); refine blk_put (cs := #[.int .i64 0, .slice none 0 0]) ?_ 0 _ rfl; (with_reducible repeat (first | refine blk_drewN ?_ _ | refine blk_drew ?_ | refine blk_alloc ?_ _)); exact BK134.out) hb); have n2_ := Aside0.mk (below_step (by repeat (first | (with_reducible first | exact HB.out | apply below_alloc | apply pw_below_drewN | apply below_drew1 | refine below_set ?_ GE134.out) | exact HB.out)) hb); clear HO133; clear BK134; clear HB; have HO133 := n0_; have BK134 := n1_; have HB := n2_; clear n0_ n1_ n2_; (try clear hb); (try clear hb2); (try clear hk); (try clear hi); have hcz15_0 : w14.cell? ⟨gb134, 0, none⟩ = some (.int .i64 100) := (blk_cell BK134.out 0).trans rfl; have hcz15_1 : w14.cell? ⟨gb134, 1, none⟩ = some (.slice Ao11 y131.length co11) := (blk_cell BK134.out 1).trans rfl; have hfz15_0 := blk_frozen BK134.out 0; have hfz15_1 := blk_frozen BK134.out 1) | ((with_reducible refine gate_callee (f := 20) rfl ?_); refine goesL_ (some 44) rfl rfl Try.func20 (by kernel_rfl) rfl #[.agg #[.int .i64 100, .slice Ao11 y131.length co11], .int .i64 890] rfl (by (try simp only [List.map_toArray, List.map_cons, List.map_nil]); first | done | rfl | (simp only [List.length_drop, List.length_take]; rfl)) ?_; (with_reducible refine (clock_At.calls k 100 _ _ y131 890 t144 t145 t146 _ ?side1 ?side2 A5.out).mono ?_); (case side1 => repeat (first | exact (Kd.R_reads' HO133.out).2.2 | (with_reducible refine Kd.C_alloc ?_ _) | (with_reducible refine Kd.C_drewN ?_ _) | (with_reducible refine Kd.C_drew ?_))); (case side2 => exact (Kd.R_reads' HO133.out).2.1); rintro e w16 ⟨rfl, hb⟩; refine ⟨_, rfl, ?_⟩; have n0_ := Aside0.mk (Kd.R_below (by (with_reducible repeat (first | apply Kd.R_alloc | apply Kd.R_drewN | apply Kd.R_drew)); exact HO133.out) hb); have n1_ := Aside0.mk (blk_below (g := gb134) (o := .cells #[.int .i64 100, .slice Ao11 y131.length co11] 24 (0, 0)) (by (with_reducible repeat (first | refine blk_drewN ?_ _ | refine blk_drew ?_ | refine blk_alloc ?_ _)); exact BK134.out) hb); have n2_ := Aside0.mk (below_step (by repeat (first | (with_reducible first | exact HB.out | apply below_alloc | apply pw_below_drewN | apply below_drew1 | refine below_set ?_ GE134.out) | exact HB.out)) hb); clear HO133; clear BK134; clear HB; have HO133 := n0_; have BK134 := n1_; have HB := n2_; clear n0_ n1_ n2_; (try clear hb); (try clear hb2); (try clear hk); (try clear hi); have hcz17_0 : w16.cell? ⟨gb134, 0, none⟩ = some (.int .i64 100) := (blk_cell BK134.out 0).trans rfl; have hcz17_1 : w16.cell? ⟨gb134, 1, none⟩ = some (.slice Ao11 y131.length co11) := (blk_cell BK134.out 1).trans rfl; have hfz17_0 := blk_frozen BK134.out 0; have hfz17_1 := blk_frozen BK134.out 1) | ((with_reducible refine gate_callee (f := 22) rfl ?_); refine goesL_ (some 50) rfl rfl Try.func22 (by kernel_rfl) rfl #[.agg #[.int .i64 100, .slice Ao11 y131.length co11], .int .i64 2005] rfl (by (try simp only [List.map_toArray, List.map_cons, List.map_nil]); first | done | rfl | (simp only [List.length_drop, List.length_take]; rfl)) ?_; (with_reducible refine (clock_Reads.calls 100 _ _ y131 2005 t147 t148 t149 _ ?side1 ?side2 A6.out).mono ?_); (case side1 => repeat (first | exact (Kd.R_reads' HO133.out).2.2 | (with_reducible refine Kd.C_alloc ?_ _) | (with_reducible refine Kd.C_drewN ?_ _) | (with_reducible refine Kd.C_drew ?_))); (case side2 => exact (Kd.R_reads' HO133.out).2.1); rintro e w18 ⟨rfl, hb⟩; refine ⟨_, rfl, ?_⟩; have n0_ := Aside0.mk (Kd.R_below (by (with_reducible repeat (first | apply Kd.R_alloc | apply Kd.R_drewN | apply Kd.R_drew)); exact HO133.out) hb); have n1_ := Aside0.mk (blk_below (g := gb134) (o := .cells #[.int .i64 100, .slice Ao11 y131.length co11] 24 (0, 0)) (by (with_reducible repeat (first | refine blk_drewN ?_ _ | refine blk_drew ?_ | refine blk_alloc ?_ _)); exact BK134.out) hb); have n2_ := Aside0.mk (below_step (by repeat (first | (with_reducible first | exact HB.out | apply below_alloc | apply pw_below_drewN | apply below_drew1 | refine below_set ?_ GE134.out) | exact HB.out)) hb); clear HO133; clear BK134; clear HB; have HO133 := n0_; have BK134 := n1_; have HB := n2_; clear n0_ n1_ n2_; (try clear hb); (try clear hb2); (try clear hk); (try clear hi)) | ((with_reducible refine gate_dst (N := 59) rfl ?_); refine Kd.R_lit k32 _ 32 ?hg (N := 59) ?hd (xs := ([(⟨0, 10⟩ : S32), (⟨5, 15⟩ : S32), (⟨8, 9⟩ : S32), (⟨12, 20⟩ : S32)] : List (S32))) (inner := [.int .i64 0, .int .i64 10, .int .i64 5, .int .i64 15, .int .i64 8, .int .i64 9, .int .i64 12, .int .i64 20]) (ok := fun _ => True) (okp := fun _ => True) ?hr ?hp (fun _ hk => hk) trivial (Below.refl _ _) (Nat.le_refl _) (by simp) ?_; (case hd => rfl); (case hg => rfl); (case hr => first | (go_simp; done) | (go_simp; rfl)); (case hp => exact (Reps.c2 (show Kd.M k32 _ _ _ (⟨0, 10⟩ : S32) [.int .i64 0, .int .i64 10] from (k32_mkM _ _ _ (⟨0, 10⟩ : S32) )) (Reps.c2 (show Kd.M k32 _ _ _ (⟨5, 15⟩ : S32) [.int .i64 5, .int .i64 15] from (k32_mkM _ _ _ (⟨5, 15⟩ : S32) )) (Reps.c2 (show Kd.M k32 _ _ _ (⟨8, 9⟩ : S32) [.int .i64 8, .int .i64 9] from (k32_mkM _ _ _ (⟨8, 9⟩ : S32) )) (Reps.c2 (show Kd.M k32 _ _ _ (⟨12, 20⟩ : S32) [.int .i64 12, .int .i64 20] from (k32_mkM _ _ _ (⟨12, 20⟩ : S32) )) (Reps.none _ _)))))); intro v151 w19 ho20 hb hg_ hnew_; clear hg_ hnew_; (first | rw [← Ny150.out] at ho20 | (simp only [Int.reduceToNat] at ho20; rw [← Ny150.out] at ho20)); have n0_ := Aside0.mk (Kd.R_below (by (with_reducible repeat (first | apply Kd.R_alloc | apply Kd.R_drewN | apply Kd.R_drew)); exact HO133.out) hb); have n1_ := Aside0.mk (Kd.R_lower ho20 (below_size (by repeat (first | (with_reducible first | exact HB.out | apply below_alloc | apply pw_below_drewN | apply below_drew1 | refine below_set ?_ GE134.out) | exact HB.out)))); have n2_ := Aside0.mk (blk_below (g := gb134) (o := .cells #[.int .i64 100, .slice Ao11 y131.length co11] 24 (0, 0)) (by (with_reducible repeat (first | refine blk_drewN ?_ _ | refine blk_drew ?_ | refine blk_alloc ?_ _)); exact BK134.out) hb); have n3_ := Aside0.mk (below_step (by repeat (first | (with_reducible first | exact HB.out | apply below_alloc | apply pw_below_drewN | apply below_drew1 | refine below_set ?_ GE134.out) | exact HB.out)) hb); clear HO133; clear BK134; clear HB; have HO133 := n0_; have HO152 := n1_; have BK134 := n2_; have HB := n3_; clear n0_ n1_ n2_ n3_; clear hb ho20; obtain ⟨Ao21, co21, eo21⟩ := Kd.R_slice HO152.out; subst eo21) | ((with_reducible refine gate_callee (f := 13) rfl ?_); refine goesL_ (some 60) rfl rfl Try.func13 (by kernel_rfl) rfl #[.slice Ao21 y150.length co21] rfl (by (try simp only [List.map_toArray, List.map_cons, List.map_nil]); first | done | rfl | (simp only [List.length_drop, List.length_take]; rfl)) ?_; (with_reducible refine (clock_Agree.calls k _ _ y150 t153 t154 t155 _ ?side1 ?side2 A7.out).mono ?_); (case side1 => repeat (first | exact (Kd.R_reads' HO152.out).2.2 | (with_reducible refine Kd.C_alloc ?_ _) | (with_reducible refine Kd.C_drewN ?_ _) | (with_reducible refine Kd.C_drew ?_))); (case side2 => exact (Kd.R_reads' HO152.out).2.1); rintro e w22 ⟨rfl, hb⟩; refine ⟨_, rfl, ?_⟩; have n0_ := Aside0.mk (Kd.R_below (by (with_reducible repeat (first | apply Kd.R_alloc | apply Kd.R_drewN | apply Kd.R_drew)); exact HO133.out) hb); have n1_ := Aside0.mk (Kd.R_below (by (with_reducible repeat (first | apply Kd.R_alloc | apply Kd.R_drewN | apply Kd.R_drew)); exact HO152.out) hb); have n2_ := Aside0.mk (blk_below (g := gb134) (o := .cells #[.int .i64 100, .slice Ao11 y131.length co11] 24 (0, 0)) (by (with_reducible repeat (first | refine blk_drewN ?_ _ | refine blk_drew ?_ | refine blk_alloc ?_ _)); exact BK134.out) hb); have n3_ := Aside0.mk (below_step (by repeat (first | (with_reducible first | exact HB.out | apply below_alloc | apply pw_below_drewN | apply below_drew1 | refine below_set ?_ GE134.out) | exact HB.out)) hb); clear HO133; clear HO152; clear BK134; clear HB; have HO133 := n0_; have HO152 := n1_; have BK134 := n2_; have HB := n3_; clear n0_ n1_ n2_ n3_; (try clear hb); (try clear hb2); (try clear hk); (try clear hi)) | ((with_reducible refine gate_dst (N := 17) rfl ?_); refine box_event ?hg (N := 17) ?hd (cs := #[.int .i64 0, .int .i64 0]) (t := 32) ?hr ?_; (case hd => rfl); (case hg => rfl); (case hr => first | (go_simp; done) | (go_simp; rfl)); intro gb156 hg w23 hbox hb; have n0_ := Aside0.mk (Kd.R_below (by (with_reducible repeat (first | apply Kd.R_alloc | apply Kd.R_drewN | apply Kd.R_drew)); exact HO133.out) hb); have n1_ := Aside0.mk (Kd.R_below (Kd.R_elderB (by (with_reducible repeat (first | apply Kd.R_alloc | apply Kd.R_drewN | apply Kd.R_drew)); exact HO152.out) gb156 (Nat.le_of_eq hg.symm)) hb); have n2_ := Aside0.mk (blk_below (g := gb134) (o := .cells #[.int .i64 100, .slice Ao11 y131.length co11] 24 (0, 0)) (by (with_reducible repeat (first | refine blk_drewN ?_ _ | refine blk_drew ?_ | refine blk_alloc ?_ _)); exact BK134.out) hb); have n3_ := Aside0.mk (below_step (by repeat (first | (with_reducible first | exact HB.out | apply below_alloc | apply pw_below_drewN | apply below_drew1 | refine below_set ?_ GE134.out) | exact HB.out)) hb); have n4_ := Aside0.mk (hbox); have n5_ := Aside0.mk ((by rw [hg]; exact (below_size (by repeat (first | (with_reducible first | exact HB.out | apply below_alloc | apply pw_below_drewN | apply below_drew1 | refine below_set ?_ GE134.out) | exact HB.out))) : w.heap.size ≤ gb156)); have n6_ := Aside0.mk ((by rw [hg]; exact (below_size (by repeat (first | (with_reducible first | exact HB.out | apply below_alloc | apply pw_below_drewN | apply below_drew1 | refine below_set ?_ GE134.out) | exact HB.out))) : w.heap.size ≤ gb156)); have n7_ := Aside0.mk ((by rw [hg]; exact Nat.ne_of_lt (blk_lt (g := gb134) (o := .cells #[.int .i64 100, .slice Ao11 y131.length co11] 24 (0, 0)) (by (with_reducible repeat (first | refine blk_drewN ?_ _ | refine blk_drew ?_ | refine blk_alloc ?_ _)); exact BK134.out)) : gb134 ≠ gb156)); have n8_ := Aside0.mk ((by rw [hg]; exact Nat.ne_of_gt (blk_lt (g := gb134) (o := .cells #[.int .i64 100, .slice Ao11 y131.length co11] 24 (0, 0)) (by (with_reducible repeat (first | refine blk_drewN ?_ _ | refine blk_drew ?_ | refine blk_alloc ?_ _)); exact BK134.out)) : gb156 ≠ gb134)); clear HO133; clear HO152; clear BK134; clear HB; have HO133 := n0_; have HO152 := n1_; have BK134 := n2_; have HB := n3_; have BK156 := n4_; have GW156 := n5_; have GE156 := n6_; have NB134_156 := n7_; have NB156_134 := n8_; clear n0_ n1_ n2_ n3_ n4_ n5_ n6_ n7_ n8_; clear hb hbox hg; have hnb24 := NB156_134.out; have hnc24 := NB134_156.out; have hcz25_0 : w23.cell? ⟨gb156, 0, none⟩ = some (.int .i64 0) := (blk_cell BK156.out 0).trans rfl; have hcz25_1 : w23.cell? ⟨gb156, 1, none⟩ = some (.int .i64 0) := (blk_cell BK156.out 1).trans rfl; have hfz25_0 := blk_frozen BK156.out 0; have hfz25_1 := blk_frozen BK156.out 1))
 (try simp only [Act.put, List.setIfInBounds_toArray, List.set_cons_zero, List.set_cons_succ])
 go_cut [19] (fun v19 wc => ∃ (kq : Nat) (x19_7 : Bool), v19 = .bool x19_7 ∧ Aside0 (dialtonelaw05_sane.j0 kq t141 t142 t143 t144 t145 t146 t147 t148 t149 t155 x19_7 100 y131 t153 t154 = some r) ∧ Aside0 (kq ≤ k) ∧ Aside0 (Kd.R k50 50 wc w.heap.size (fun _ => True) (.slice Ao11 y131.length co11) y131) ∧ Aside0 (wc.heap[gb134]? = some (.cells #[.int .i64 100, (.slice Ao11 y131.length co11)] 24 (0, 0))) ∧ Aside0 (wc.heap[gb156]? = some (.cells #[.int .i64 t153, .int .i64 t154] 32 (0, 0))) ∧ Aside0 (Below w.heap.size w wc))
 case first =>
  have H := HC8.out
  clear HC8
  by_cases c26 : t135 = 7
  ·
   rw [if_pos c26] at H
   have c26b0 : (t135 == 7) = true := beq_iff_eq.mpr c26
   have c26b1 : (t135 != 7) = false := bne_eq_false_iff_eq.mpr c26
   clear c26
   (first | rw [c26b0] | (simp only [i64_w, i32_w]; rw [c26b0]) | skip)
   by_cases c27 : t136 = 7
   ·
    rw [if_pos c27] at H
    have c27b0 : (t136 == 7) = true := beq_iff_eq.mpr c27
    have c27b1 : (t136 != 7) = false := bne_eq_false_iff_eq.mpr c27
    clear c27
    by_cases c28 : t137 = 0
    ·
     rw [if_pos c28] at H
     have c28b0 : (t137 == 0) = true := beq_iff_eq.mpr c28
     have c28b1 : (t137 != 0) = false := bne_eq_false_iff_eq.mpr c28
     clear c28
     by_cases c29 : t138 = 1
     ·
      rw [if_pos c29] at H
      have c29b0 : (t138 == 1) = true := beq_iff_eq.mpr c29
      have c29b1 : (t138 != 1) = false := bne_eq_false_iff_eq.mpr c29
      clear c29
      by_cases c30 : t139 = 100
      ·
       rw [if_pos c30] at H
       have c30b0 : (t139 == 100) = true := beq_iff_eq.mpr c30
       have c30b1 : (t139 != 100) = false := bne_eq_false_iff_eq.mpr c30
       clear c30
       have H' := Aside0.mk H
       clear H
       go_wp2
       go_meet
       case rel => exact ⟨_, ((t140 == 123)), (by first | rfl | (simp; done) | (simp [*]; done)), H', ⟨by first | omega | exact Nat.le_refl _⟩, ⟨by (with_reducible repeat (first | apply Kd.R_alloc | apply Kd.R_drewN | apply Kd.R_drew)); exact Kd.R_mono (Kd.R_far (p := ⟨gb156, 1, none⟩) (Kd.R_far (p := ⟨gb156, 0, none⟩) (Kd.R_types HO133.out BK156.out (by decide)) (fun _ hk => hk.2) (.int .i64 t153)) (fun _ hk => hk.2) (.int .i64 t154)) (fun _ hk => trivial)⟩, ⟨by (with_reducible repeat (first | refine blk_drewN ?_ _ | refine blk_drew ?_ | refine blk_alloc ?_ _)); refine blk_far ?_ NB134_156.out _; (with_reducible repeat (first | refine blk_drewN ?_ _ | refine blk_drew ?_ | refine blk_alloc ?_ _)); refine blk_far ?_ NB134_156.out _; (with_reducible repeat (first | refine blk_drewN ?_ _ | refine blk_drew ?_ | refine blk_alloc ?_ _)); exact BK134.out⟩, ⟨by (with_reducible repeat (first | refine blk_drewN ?_ _ | refine blk_drew ?_ | refine blk_alloc ?_ _)); refine blk_put (cs := #[.int .i64 t153, .int .i64 0]) ?_ 1 _ rfl; (with_reducible repeat (first | refine blk_drewN ?_ _ | refine blk_drew ?_ | refine blk_alloc ?_ _)); refine blk_put (cs := #[.int .i64 0, .int .i64 0]) ?_ 0 _ rfl; (with_reducible repeat (first | refine blk_drewN ?_ _ | refine blk_drew ?_ | refine blk_alloc ?_ _)); exact BK156.out⟩, ⟨by repeat (first | (with_reducible first | exact HB.out | apply below_alloc | apply pw_below_drewN | apply below_drew1 | refine below_set ?_ GE134.out | refine below_set ?_ GE156.out) | exact HB.out)⟩⟩
      ·
       rw [if_neg c30] at H
       have c30b0 : (t139 == 100) = false := beq_eq_false_iff_ne.mpr c30
       have c30b1 : (t139 != 100) = true := bne_iff_ne.mpr c30
       have H' := Aside0.mk H
       clear H
       go_wp2
       go_meet
       case rel => exact ⟨_, (false), (by first | rfl | (simp; done) | (simp [*]; done)), H', ⟨by first | omega | exact Nat.le_refl _⟩, ⟨by (with_reducible repeat (first | apply Kd.R_alloc | apply Kd.R_drewN | apply Kd.R_drew)); exact Kd.R_mono (Kd.R_far (p := ⟨gb156, 1, none⟩) (Kd.R_far (p := ⟨gb156, 0, none⟩) (Kd.R_types HO133.out BK156.out (by decide)) (fun _ hk => hk.2) (.int .i64 t153)) (fun _ hk => hk.2) (.int .i64 t154)) (fun _ hk => trivial)⟩, ⟨by (with_reducible repeat (first | refine blk_drewN ?_ _ | refine blk_drew ?_ | refine blk_alloc ?_ _)); refine blk_far ?_ NB134_156.out _; (with_reducible repeat (first | refine blk_drewN ?_ _ | refine blk_drew ?_ | refine blk_alloc ?_ _)); refine blk_far ?_ NB134_156.out _; (with_reducible repeat (first | refine blk_drewN ?_ _ | refine blk_drew ?_ | refine blk_alloc ?_ _)); exact BK134.out⟩, ⟨by (with_reducible repeat (first | refine blk_drewN ?_ _ | refine blk_drew ?_ | refine blk_alloc ?_ _)); refine blk_put (cs := #[.int .i64 t153, .int .i64 0]) ?_ 1 _ rfl; (with_reducible repeat (first | refine blk_drewN ?_ _ | refine blk_drew ?_ | refine blk_alloc ?_ _)); refine blk_put (cs := #[.int .i64 0, .int .i64 0]) ?_ 0 _ rfl; (with_reducible repeat (first | refine blk_drewN ?_ _ | refine blk_drew ?_ | refine blk_alloc ?_ _)); exact BK156.out⟩, ⟨by repeat (first | (with_reducible first | exact HB.out | apply below_alloc | apply pw_below_drewN | apply below_drew1 | refine below_set ?_ GE134.out | refine below_set ?_ GE156.out) | exact HB.out)⟩⟩
     ·
      rw [if_neg c29] at H
      have c29b0 : (t138 == 1) = false := beq_eq_false_iff_ne.mpr c29
      have c29b1 : (t138 != 1) = true := bne_iff_ne.mpr c29
      have H' := Aside0.mk H
      clear H
      go_wp2
      go_meet
      case rel => exact ⟨_, (false), (by first | rfl | (simp; done) | (simp [*]; done)), H', ⟨by first | omega | exact Nat.le_refl _⟩, ⟨by (with_reducible repeat (first | apply Kd.R_alloc | apply Kd.R_drewN | apply Kd.R_drew)); exact Kd.R_mono (Kd.R_far (p := ⟨gb156, 1, none⟩) (Kd.R_far (p := ⟨gb156, 0, none⟩) (Kd.R_types HO133.out BK156.out (by decide)) (fun _ hk => hk.2) (.int .i64 t153)) (fun _ hk => hk.2) (.int .i64 t154)) (fun _ hk => trivial)⟩, ⟨by (with_reducible repeat (first | refine blk_drewN ?_ _ | refine blk_drew ?_ | refine blk_alloc ?_ _)); refine blk_far ?_ NB134_156.out _; (with_reducible repeat (first | refine blk_drewN ?_ _ | refine blk_drew ?_ | refine blk_alloc ?_ _)); refine blk_far ?_ NB134_156.out _; (with_reducible repeat (first | refine blk_drewN ?_ _ | refine blk_drew ?_ | refine blk_alloc ?_ _)); exact BK134.out⟩, ⟨by (with_reducible repeat (first | refine blk_drewN ?_ _ | refine blk_drew ?_ | refine blk_alloc ?_ _)); refine blk_put (cs := #[.int .i64 t153, .int .i64 0]) ?_ 1 _ rfl; (with_reducible repeat (first | refine blk_drewN ?_ _ | refine blk_drew ?_ | refine blk_alloc ?_ _)); refine blk_put (cs := #[.int .i64 0, .int .i64 0]) ?_ 0 _ rfl; (with_reducible repeat (first | refine blk_drewN ?_ _ | refine blk_drew ?_ | refine blk_alloc ?_ _)); exact BK156.out⟩, ⟨by repeat (first | (with_reducible first | exact HB.out | apply below_alloc | apply pw_below_drewN | apply below_drew1 | refine below_set ?_ GE134.out | refine below_set ?_ GE156.out) | exact HB.out)⟩⟩
    ·
     rw [if_neg c28] at H
     have c28b0 : (t137 == 0) = false := beq_eq_false_iff_ne.mpr c28
     have c28b1 : (t137 != 0) = true := bne_iff_ne.mpr c28
     have H' := Aside0.mk H
     clear H
     go_wp2
     go_meet
     case rel => exact ⟨_, (false), (by first | rfl | (simp; done) | (simp [*]; done)), H', ⟨by first | omega | exact Nat.le_refl _⟩, ⟨by (with_reducible repeat (first | apply Kd.R_alloc | apply Kd.R_drewN | apply Kd.R_drew)); exact Kd.R_mono (Kd.R_far (p := ⟨gb156, 1, none⟩) (Kd.R_far (p := ⟨gb156, 0, none⟩) (Kd.R_types HO133.out BK156.out (by decide)) (fun _ hk => hk.2) (.int .i64 t153)) (fun _ hk => hk.2) (.int .i64 t154)) (fun _ hk => trivial)⟩, ⟨by (with_reducible repeat (first | refine blk_drewN ?_ _ | refine blk_drew ?_ | refine blk_alloc ?_ _)); refine blk_far ?_ NB134_156.out _; (with_reducible repeat (first | refine blk_drewN ?_ _ | refine blk_drew ?_ | refine blk_alloc ?_ _)); refine blk_far ?_ NB134_156.out _; (with_reducible repeat (first | refine blk_drewN ?_ _ | refine blk_drew ?_ | refine blk_alloc ?_ _)); exact BK134.out⟩, ⟨by (with_reducible repeat (first | refine blk_drewN ?_ _ | refine blk_drew ?_ | refine blk_alloc ?_ _)); refine blk_put (cs := #[.int .i64 t153, .int .i64 0]) ?_ 1 _ rfl; (with_reducible repeat (first | refine blk_drewN ?_ _ | refine blk_drew ?_ | refine blk_alloc ?_ _)); refine blk_put (cs := #[.int .i64 0, .int .i64 0]) ?_ 0 _ rfl; (with_reducible repeat (first | refine blk_drewN ?_ _ | refine blk_drew ?_ | refine blk_alloc ?_ _)); exact BK156.out⟩, ⟨by repeat (first | (with_reducible first | exact HB.out | apply below_alloc | apply pw_below_drewN | apply below_drew1 | refine below_set ?_ GE134.out | refine below_set ?_ GE156.out) | exact HB.out)⟩⟩
   ·
    rw [if_neg c27] at H
    have c27b0 : (t136 == 7) = false := beq_eq_false_iff_ne.mpr c27
    have c27b1 : (t136 != 7) = true := bne_iff_ne.mpr c27
    have H' := Aside0.mk H
    clear H
    go_wp2
    go_meet
    case rel => exact ⟨_, (false), (by first | rfl | (simp; done) | (simp [*]; done)), H', ⟨by first | omega | exact Nat.le_refl _⟩, ⟨by (with_reducible repeat (first | apply Kd.R_alloc | apply Kd.R_drewN | apply Kd.R_drew)); exact Kd.R_mono (Kd.R_far (p := ⟨gb156, 1, none⟩) (Kd.R_far (p := ⟨gb156, 0, none⟩) (Kd.R_types HO133.out BK156.out (by decide)) (fun _ hk => hk.2) (.int .i64 t153)) (fun _ hk => hk.2) (.int .i64 t154)) (fun _ hk => trivial)⟩, ⟨by (with_reducible repeat (first | refine blk_drewN ?_ _ | refine blk_drew ?_ | refine blk_alloc ?_ _)); refine blk_far ?_ NB134_156.out _; (with_reducible repeat (first | refine blk_drewN ?_ _ | refine blk_drew ?_ | refine blk_alloc ?_ _)); refine blk_far ?_ NB134_156.out _; (with_reducible repeat (first | refine blk_drewN ?_ _ | refine blk_drew ?_ | refine blk_alloc ?_ _)); exact BK134.out⟩, ⟨by (with_reducible repeat (first | refine blk_drewN ?_ _ | refine blk_drew ?_ | refine blk_alloc ?_ _)); refine blk_put (cs := #[.int .i64 t153, .int .i64 0]) ?_ 1 _ rfl; (with_reducible repeat (first | refine blk_drewN ?_ _ | refine blk_drew ?_ | refine blk_alloc ?_ _)); refine blk_put (cs := #[.int .i64 0, .int .i64 0]) ?_ 0 _ rfl; (with_reducible repeat (first | refine blk_drewN ?_ _ | refine blk_drew ?_ | refine blk_alloc ?_ _)); exact BK156.out⟩, ⟨by repeat (first | (with_reducible first | exact HB.out | apply below_alloc | apply pw_below_drewN | apply below_drew1 | refine below_set ?_ GE134.out | refine below_set ?_ GE156.out) | exact HB.out)⟩⟩
  ·
   rw [if_neg c26] at H
   have c26b0 : (t135 == 7) = false := beq_eq_false_iff_ne.mpr c26
   have c26b1 : (t135 != 7) = true := bne_iff_ne.mpr c26
   (first | rw [c26b0] | (simp only [i64_w, i32_w]; rw [c26b0]) | skip)
   have H' := Aside0.mk H
   clear H
   go_wp2
   go_meet
   case rel => exact ⟨_, (false), (by first | rfl | (simp; done) | (simp [*]; done)), H', ⟨by first | omega | exact Nat.le_refl _⟩, ⟨by (with_reducible repeat (first | apply Kd.R_alloc | apply Kd.R_drewN | apply Kd.R_drew)); exact Kd.R_mono (Kd.R_far (p := ⟨gb156, 1, none⟩) (Kd.R_far (p := ⟨gb156, 0, none⟩) (Kd.R_types HO133.out BK156.out (by decide)) (fun _ hk => hk.2) (.int .i64 t153)) (fun _ hk => hk.2) (.int .i64 t154)) (fun _ hk => trivial)⟩, ⟨by (with_reducible repeat (first | refine blk_drewN ?_ _ | refine blk_drew ?_ | refine blk_alloc ?_ _)); refine blk_far ?_ NB134_156.out _; (with_reducible repeat (first | refine blk_drewN ?_ _ | refine blk_drew ?_ | refine blk_alloc ?_ _)); refine blk_far ?_ NB134_156.out _; (with_reducible repeat (first | refine blk_drewN ?_ _ | refine blk_drew ?_ | refine blk_alloc ?_ _)); exact BK134.out⟩, ⟨by (with_reducible repeat (first | refine blk_drewN ?_ _ | refine blk_drew ?_ | refine blk_alloc ?_ _)); refine blk_put (cs := #[.int .i64 t153, .int .i64 0]) ?_ 1 _ rfl; (with_reducible repeat (first | refine blk_drewN ?_ _ | refine blk_drew ?_ | refine blk_alloc ?_ _)); refine blk_put (cs := #[.int .i64 0, .int .i64 0]) ?_ 0 _ rfl; (with_reducible repeat (first | refine blk_drewN ?_ _ | refine blk_drew ?_ | refine blk_alloc ?_ _)); exact BK156.out⟩, ⟨by repeat (first | (with_reducible first | exact HB.out | apply below_alloc | apply pw_below_drewN | apply below_drew1 | refine below_set ?_ GE134.out | refine below_set ?_ GE156.out) | exact HB.out)⟩⟩
 case rest =>
  clear HC8
  try clear c1
  try clear c2
  try clear p2
  try clear c3
  try clear c10
  try clear c11
  try clear c13
  try clear c20
  try clear c22
  try clear c24
  try clear c26
  try clear c26b0
  try clear c26b1
  try clear c27
  try clear c27b0
  try clear c27b1
  try clear c28
  try clear c28b0
  try clear c28b1
  try clear c29
  try clear c29b0
  try clear c29b1
  try clear c30
  try clear c30b0
  try clear c30b1
  try clear hcz13_0
  try clear hcz13_1
  try clear hcz15_0
  try clear hcz15_1
  try clear hcz17_0
  try clear hcz17_1
  try clear hcz25_0
  try clear hcz25_1
  try clear hfz13_0
  try clear hfz13_1
  try clear hfz15_0
  try clear hfz15_1
  try clear hfz17_0
  try clear hfz17_1
  try clear hfz25_0
  try clear hfz25_1
  obtain ⟨kq, x19_7, rfl, HA, HJ7, HO_135001, BK134, BK156, HB⟩ := hcut
  cases kq with
  | zero => exact absurd HA.out (by simp [dialtonelaw05_sane.j0])
  | succ kj7 =>
   have H := HA.out
   clear HA
   simp only [dialtonelaw05_sane.j0] at H
   have HC31 := Aside0.mk H
   clear H
   go_upto_region 10 with (fail)
   go_cut [20] (fun v20 wc => ∃ (kq : Nat) (x20_30 : Bool), v20 = .bool x20_30 ∧ Aside0 (dialtonelaw05_sane.j1 kq t147 t148 t149 t155 x19_7 x20_30 100 y131 t153 t154 = some r) ∧ Aside0 (kq ≤ kj7) ∧ Aside0 (Kd.R k50 50 wc w.heap.size (fun _ => True) (.slice Ao11 y131.length co11) y131) ∧ Aside0 (wc.heap[gb134]? = some (.cells #[.int .i64 100, (.slice Ao11 y131.length co11)] 24 (0, 0))) ∧ Aside0 (wc.heap[gb156]? = some (.cells #[.int .i64 t153, .int .i64 t154] 32 (0, 0))) ∧ Aside0 (Below w.heap.size w wc))
   case first =>
    have H := HC31.out
    clear HC31
    by_cases c32 : t143 = 0
    ·
     rw [if_pos c32] at H
     have c32b0 : (t143 == 0) = true := beq_iff_eq.mpr c32
     have c32b1 : (t143 != 0) = false := bne_eq_false_iff_eq.mpr c32
     clear c32
     (first | rw [c32b0] | (simp only [i64_w, i32_w]; rw [c32b0]) | skip)
     by_cases c33 : t141 = 2100
     ·
      rw [if_pos c33] at H
      have c33b0 : (t141 == 2100) = true := beq_iff_eq.mpr c33
      have c33b1 : (t141 != 2100) = false := bne_eq_false_iff_eq.mpr c33
      clear c33
      by_cases c34 : t142 = 2133
      ·
       rw [if_pos c34] at H
       have c34b0 : (t142 == 2133) = true := beq_iff_eq.mpr c34
       have c34b1 : (t142 != 2133) = false := bne_eq_false_iff_eq.mpr c34
       clear c34
       by_cases c35 : t146 = 0
       ·
        rw [if_pos c35] at H
        have c35b0 : (t146 == 0) = true := beq_iff_eq.mpr c35
        have c35b1 : (t146 != 0) = false := bne_eq_false_iff_eq.mpr c35
        clear c35
        by_cases c36 : t144 = 1877
        ·
         rw [if_pos c36] at H
         have c36b0 : (t144 == 1877) = true := beq_iff_eq.mpr c36
         have c36b1 : (t144 != 1877) = false := bne_eq_false_iff_eq.mpr c36
         clear c36
         have H' := Aside0.mk H
         clear H
         go_wp2
         go_meet
         case rel => exact ⟨_, ((t145 == 1910)), (by first | rfl | (simp; done) | (simp [*]; done)), H', ⟨by have := HJ7.out; first | omega | exact Nat.le_refl _⟩, ⟨by (with_reducible repeat (first | apply Kd.R_alloc | apply Kd.R_drewN | apply Kd.R_drew)); exact HO_135001.out⟩, ⟨by (with_reducible repeat (first | refine blk_drewN ?_ _ | refine blk_drew ?_ | refine blk_alloc ?_ _)); exact BK134.out⟩, ⟨by (with_reducible repeat (first | refine blk_drewN ?_ _ | refine blk_drew ?_ | refine blk_alloc ?_ _)); exact BK156.out⟩, ⟨by repeat (first | (with_reducible first | exact HB.out | apply below_alloc | apply pw_below_drewN | apply below_drew1 | refine below_set ?_ GE134.out | refine below_set ?_ GE156.out) | exact HB.out)⟩⟩
        ·
         rw [if_neg c36] at H
         have c36b0 : (t144 == 1877) = false := beq_eq_false_iff_ne.mpr c36
         have c36b1 : (t144 != 1877) = true := bne_iff_ne.mpr c36
         have H' := Aside0.mk H
         clear H
         go_wp2
         go_meet
         case rel => exact ⟨_, (false), (by first | rfl | (simp; done) | (simp [*]; done)), H', ⟨by have := HJ7.out; first | omega | exact Nat.le_refl _⟩, ⟨by (with_reducible repeat (first | apply Kd.R_alloc | apply Kd.R_drewN | apply Kd.R_drew)); exact HO_135001.out⟩, ⟨by (with_reducible repeat (first | refine blk_drewN ?_ _ | refine blk_drew ?_ | refine blk_alloc ?_ _)); exact BK134.out⟩, ⟨by (with_reducible repeat (first | refine blk_drewN ?_ _ | refine blk_drew ?_ | refine blk_alloc ?_ _)); exact BK156.out⟩, ⟨by repeat (first | (with_reducible first | exact HB.out | apply below_alloc | apply pw_below_drewN | apply below_drew1 | refine below_set ?_ GE134.out | refine below_set ?_ GE156.out) | exact HB.out)⟩⟩
       ·
        rw [if_neg c35] at H
        have c35b0 : (t146 == 0) = false := beq_eq_false_iff_ne.mpr c35
        have c35b1 : (t146 != 0) = true := bne_iff_ne.mpr c35
        have H' := Aside0.mk H
        clear H
        go_wp2
        go_meet
        case rel => exact ⟨_, (false), (by first | rfl | (simp; done) | (simp [*]; done)), H', ⟨by have := HJ7.out; first | omega | exact Nat.le_refl _⟩, ⟨by (with_reducible repeat (first | apply Kd.R_alloc | apply Kd.R_drewN | apply Kd.R_drew)); exact HO_135001.out⟩, ⟨by (with_reducible repeat (first | refine blk_drewN ?_ _ | refine blk_drew ?_ | refine blk_alloc ?_ _)); exact BK134.out⟩, ⟨by (with_reducible repeat (first | refine blk_drewN ?_ _ | refine blk_drew ?_ | refine blk_alloc ?_ _)); exact BK156.out⟩, ⟨by repeat (first | (with_reducible first | exact HB.out | apply below_alloc | apply pw_below_drewN | apply below_drew1 | refine below_set ?_ GE134.out | refine below_set ?_ GE156.out) | exact HB.out)⟩⟩
      ·
       rw [if_neg c34] at H
       have c34b0 : (t142 == 2133) = false := beq_eq_false_iff_ne.mpr c34
       have c34b1 : (t142 != 2133) = true := bne_iff_ne.mpr c34
       have H' := Aside0.mk H
       clear H
       go_wp2
       go_meet
       case rel => exact ⟨_, (false), (by first | rfl | (simp; done) | (simp [*]; done)), H', ⟨by have := HJ7.out; first | omega | exact Nat.le_refl _⟩, ⟨by (with_reducible repeat (first | apply Kd.R_alloc | apply Kd.R_drewN | apply Kd.R_drew)); exact HO_135001.out⟩, ⟨by (with_reducible repeat (first | refine blk_drewN ?_ _ | refine blk_drew ?_ | refine blk_alloc ?_ _)); exact BK134.out⟩, ⟨by (with_reducible repeat (first | refine blk_drewN ?_ _ | refine blk_drew ?_ | refine blk_alloc ?_ _)); exact BK156.out⟩, ⟨by repeat (first | (with_reducible first | exact HB.out | apply below_alloc | apply pw_below_drewN | apply below_drew1 | refine below_set ?_ GE134.out | refine below_set ?_ GE156.out) | exact HB.out)⟩⟩
     ·
      rw [if_neg c33] at H
      have c33b0 : (t141 == 2100) = false := beq_eq_false_iff_ne.mpr c33
      have c33b1 : (t141 != 2100) = true := bne_iff_ne.mpr c33
      have H' := Aside0.mk H
      clear H
      go_wp2
      go_meet
      case rel => exact ⟨_, (false), (by first | rfl | (simp; done) | (simp [*]; done)), H', ⟨by have := HJ7.out; first | omega | exact Nat.le_refl _⟩, ⟨by (with_reducible repeat (first | apply Kd.R_alloc | apply Kd.R_drewN | apply Kd.R_drew)); exact HO_135001.out⟩, ⟨by (with_reducible repeat (first | refine blk_drewN ?_ _ | refine blk_drew ?_ | refine blk_alloc ?_ _)); exact BK134.out⟩, ⟨by (with_reducible repeat (first | refine blk_drewN ?_ _ | refine blk_drew ?_ | refine blk_alloc ?_ _)); exact BK156.out⟩, ⟨by repeat (first | (with_reducible first | exact HB.out | apply below_alloc | apply pw_below_drewN | apply below_drew1 | refine below_set ?_ GE134.out | refine below_set ?_ GE156.out) | exact HB.out)⟩⟩
    ·
     rw [if_neg c32] at H
     have c32b0 : (t143 == 0) = false := beq_eq_false_iff_ne.mpr c32
     have c32b1 : (t143 != 0) = true := bne_iff_ne.mpr c32
     (first | rw [c32b0] | (simp only [i64_w, i32_w]; rw [c32b0]) | skip)
     have H' := Aside0.mk H
     clear H
     go_wp2
     go_meet
     case rel => exact ⟨_, (false), (by first | rfl | (simp; done) | (simp [*]; done)), H', ⟨by have := HJ7.out; first | omega | exact Nat.le_refl _⟩, ⟨by (with_reducible repeat (first | apply Kd.R_alloc | apply Kd.R_drewN | apply Kd.R_drew)); exact HO_135001.out⟩, ⟨by (with_reducible repeat (first | refine blk_drewN ?_ _ | refine blk_drew ?_ | refine blk_alloc ?_ _)); exact BK134.out⟩, ⟨by (with_reducible repeat (first | refine blk_drewN ?_ _ | refine blk_drew ?_ | refine blk_alloc ?_ _)); exact BK156.out⟩, ⟨by repeat (first | (with_reducible first | exact HB.out | apply below_alloc | apply pw_below_drewN | apply below_drew1 | refine below_set ?_ GE134.out | refine below_set ?_ GE156.out) | exact HB.out)⟩⟩
   case rest =>
    clear HC31
    try clear c1
    try clear c2
    try clear p2
    try clear c3
    try clear c10
    try clear c11
    try clear c13
    try clear c20
    try clear c22
    try clear c24
    try clear c26
    try clear c26b0
    try clear c26b1
    try clear c27
    try clear c27b0
    try clear c27b1
    try clear c28
    try clear c28b0
    try clear c28b1
    try clear c29
    try clear c29b0
    try clear c29b1
    try clear c30
    try clear c30b0
    try clear c30b1
    try clear c32
    try clear c32b0
    try clear c32b1
    try clear c33
    try clear c33b0
    try clear c33b1
    try clear c34
    try clear c34b0
    try clear c34b1
    try clear c35
    try clear c35b0
    try clear c35b1
    try clear c36
    try clear c36b0
    try clear c36b1
    try clear hcz13_0
    try clear hcz13_1
    try clear hcz15_0
    try clear hcz15_1
    try clear hcz17_0
    try clear hcz17_1
    try clear hcz25_0
    try clear hcz25_1
    try clear hfz13_0
    try clear hfz13_1
    try clear hfz15_0
    try clear hfz15_1
    try clear hfz17_0
    try clear hfz17_1
    try clear hfz25_0
    try clear hfz25_1
    try clear p2
    obtain ⟨kq, x20_30, rfl, HA, HJ30, HO_135001, BK134, BK156, HB⟩ := hcut
    cases kq with
    | zero => exact absurd HA.out (by simp [dialtonelaw05_sane.j1])
    | succ kj30 =>
     have H := HA.out
     clear HA
     simp only [dialtonelaw05_sane.j1] at H
     by_cases c37 : x19_7 = true
     ·
      subst c37
      have H1 : (if x20_30 = true then (if t149 = 0 then (if t147 = 994 then (if t148 = 1006 then (if (t153 == 8 && (t154 == 9)) = true then (if t155 = 3 then ((clock_Valid.f kj30 100 y131).bind fun t157 => (if t157 = true then ((clock_Before.f kj30 100 y131 890 1911).bind fun t158 => (if t158 = true then ((clock_Before.f kj30 100 y131 890 1910).bind fun t159 => (if t159 = true then (none) else ((clock_After.f kj30 100 y131 1110 2099).bind fun t160 => (if t160 = true then ((clock_After.f kj30 100 y131 1110 2100).bind fun t161 => (some (!t161))) else (none))))) else (none))) else (none))) else (none)) else (none)) else (none)) else (none)) else (none)) else (none)) = some r := by rw [if_pos rfl] at H; exact H
      clear H
      have H := H1
      clear H1
      by_cases c38 : x20_30 = true
      ·
       subst c38
       have H1 : (if t149 = 0 then (if t147 = 994 then (if t148 = 1006 then (if (t153 == 8 && (t154 == 9)) = true then (if t155 = 3 then ((clock_Valid.f kj30 100 y131).bind fun t157 => (if t157 = true then ((clock_Before.f kj30 100 y131 890 1911).bind fun t158 => (if t158 = true then ((clock_Before.f kj30 100 y131 890 1910).bind fun t159 => (if t159 = true then (none) else ((clock_After.f kj30 100 y131 1110 2099).bind fun t160 => (if t160 = true then ((clock_After.f kj30 100 y131 1110 2100).bind fun t161 => (some (!t161))) else (none))))) else (none))) else (none))) else (none)) else (none)) else (none)) else (none)) else (none)) = some r := by rw [if_pos rfl] at H; exact H
       clear H
       have H := H1
       clear H1
       by_cases c39 : t149 = 0
       ·
        rw [if_pos c39] at H
        have c39b0 : (t149 == 0) = true := beq_iff_eq.mpr c39
        have c39b1 : (t149 != 0) = false := bne_eq_false_iff_eq.mpr c39
        clear c39
        by_cases c40 : t147 = 994
        ·
         rw [if_pos c40] at H
         have c40b0 : (t147 == 994) = true := beq_iff_eq.mpr c40
         have c40b1 : (t147 != 994) = false := bne_eq_false_iff_eq.mpr c40
         clear c40
         by_cases c41 : t148 = 1006
         ·
          rw [if_pos c41] at H
          have c41b0 : (t148 == 1006) = true := beq_iff_eq.mpr c41
          have c41b1 : (t148 != 1006) = false := bne_eq_false_iff_eq.mpr c41
          clear c41
          by_cases c42 : (t153 == 8 && (t154 == 9)) = true
          ·
           rw [if_pos c42] at H
           have c42b0 : (t153 == 8 && (t154 == 9)) = true := c42
           (try (have c42b1 : decide (t153 = 8 && (t154 == 9)) = true := by simpa using c42))
           (try (have c42b2 : (t153 == 8 && (t154 == 9)) = true := by simpa using c42))
           clear c42
           by_cases c43 : t155 = 3
           ·
            rw [if_pos c43] at H
            have c43b0 : (t155 == 3) = true := beq_iff_eq.mpr c43
            have c43b1 : (t155 != 3) = false := bne_eq_false_iff_eq.mpr c43
            clear c43
            replace H := Option.bind_eq_some_iff.mp H
            obtain ⟨t157, A440, H⟩ := H
            replace H : (if t157 = true then ((clock_Before.f kj30 100 y131 890 1911).bind fun t158 => (if t158 = true then ((clock_Before.f kj30 100 y131 890 1910).bind fun t159 => (if t159 = true then (none) else ((clock_After.f kj30 100 y131 1110 2099).bind fun t160 => (if t160 = true then ((clock_After.f kj30 100 y131 1110 2100).bind fun t161 => (some (!t161))) else (none))))) else (none))) else (none)) = some r := H
            have A44 := Aside0.mk A440
            clear A440
            by_cases c45 : t157 = true
            ·
             subst c45
             have H1 : ((clock_Before.f kj30 100 y131 890 1911).bind fun t158 => (if t158 = true then ((clock_Before.f kj30 100 y131 890 1910).bind fun t159 => (if t159 = true then (none) else ((clock_After.f kj30 100 y131 1110 2099).bind fun t160 => (if t160 = true then ((clock_After.f kj30 100 y131 1110 2100).bind fun t161 => (some (!t161))) else (none))))) else (none))) = some r := by rw [if_pos rfl] at H; exact H
             clear H
             have H := H1
             clear H1
             replace H := Option.bind_eq_some_iff.mp H
             obtain ⟨t158, A460, H⟩ := H
             replace H : (if t158 = true then ((clock_Before.f kj30 100 y131 890 1910).bind fun t159 => (if t159 = true then (none) else ((clock_After.f kj30 100 y131 1110 2099).bind fun t160 => (if t160 = true then ((clock_After.f kj30 100 y131 1110 2100).bind fun t161 => (some (!t161))) else (none))))) else (none)) = some r := H
             have A46 := Aside0.mk A460
             clear A460
             by_cases c47 : t158 = true
             ·
              subst c47
              have H1 : ((clock_Before.f kj30 100 y131 890 1910).bind fun t159 => (if t159 = true then (none) else ((clock_After.f kj30 100 y131 1110 2099).bind fun t160 => (if t160 = true then ((clock_After.f kj30 100 y131 1110 2100).bind fun t161 => (some (!t161))) else (none))))) = some r := by rw [if_pos rfl] at H; exact H
              clear H
              have H := H1
              clear H1
              replace H := Option.bind_eq_some_iff.mp H
              obtain ⟨t159, A480, H⟩ := H
              replace H : (if t159 = true then (none) else ((clock_After.f kj30 100 y131 1110 2099).bind fun t160 => (if t160 = true then ((clock_After.f kj30 100 y131 1110 2100).bind fun t161 => (some (!t161))) else (none)))) = some r := H
              have A48 := Aside0.mk A480
              clear A480
              by_cases c49 : t159 = true
              ·
               subst c49
               have H1 : (none) = some r := by rw [if_pos rfl] at H; exact H
               clear H
               have H := H1
               clear H1
               exact absurd H (by simp)
              ·
               replace c49 := Bool.eq_false_iff.mpr c49
               subst c49
               have H1 : ((clock_After.f kj30 100 y131 1110 2099).bind fun t160 => (if t160 = true then ((clock_After.f kj30 100 y131 1110 2100).bind fun t161 => (some (!t161))) else (none))) = some r := by rw [if_neg (show ¬ (false = true) by decide)] at H; exact H
               clear H
               have H := H1
               clear H1
               replace H := Option.bind_eq_some_iff.mp H
               obtain ⟨t160, A500, H⟩ := H
               replace H : (if t160 = true then ((clock_After.f kj30 100 y131 1110 2100).bind fun t161 => (some (!t161))) else (none)) = some r := H
               have A50 := Aside0.mk A500
               clear A500
               by_cases c51 : t160 = true
               ·
                subst c51
                have H1 : ((clock_After.f kj30 100 y131 1110 2100).bind fun t161 => (some (!t161))) = some r := by rw [if_pos rfl] at H; exact H
                clear H
                have H := H1
                clear H1
                replace H := Option.bind_eq_some_iff.mp H
                obtain ⟨t161, A520, H⟩ := H
                replace H : (some (!t161)) = some r := H
                have A52 := Aside0.mk A520
                clear A520
                obtain rfl := Option.some.inj H
                have hnb53 := NB156_134.out
                have hnc53 := NB134_156.out
                have hcz54_0 : wc.cell? ⟨gb156, 0, none⟩ = some (.int .i64 t153) := (blk_cell BK156.out 0).trans rfl
                have hcz54_1 : wc.cell? ⟨gb156, 1, none⟩ = some (.int .i64 t154) := (blk_cell BK156.out 1).trans rfl
                have hfz54_0 := blk_frozen BK156.out 0
                have hfz54_1 := blk_frozen BK156.out 1
                have hcz55_0 : wc.cell? ⟨gb134, 0, none⟩ = some (.int .i64 100) := (blk_cell BK134.out 0).trans rfl
                have hcz55_1 : wc.cell? ⟨gb134, 1, none⟩ = some (.slice Ao11 y131.length co11) := (blk_cell BK134.out 1).trans rfl
                have hfz55_0 := blk_frozen BK134.out 0
                have hfz55_1 := blk_frozen BK134.out 1
                go_wp2_with (first | (go_at_call 17; (with_reducible refine (clock_Valid.calls kj30 100 _ _ y131 true _ ?side1 ?side2 A44.out).mono ?_); (case side1 => repeat (first | exact (Kd.R_reads' HO_135001.out).2.2 | (with_reducible refine Kd.C_alloc ?_ _) | (with_reducible refine Kd.C_drewN ?_ _) | (with_reducible refine Kd.C_drew ?_))); (case side2 => exact (Kd.R_reads' HO_135001.out).2.1); rintro e w56 ⟨rfl, hb⟩; have n0_ := Aside0.mk (Kd.R_below (by (with_reducible repeat (first | apply Kd.R_alloc | apply Kd.R_drewN | apply Kd.R_drew)); exact HO_135001.out) hb); have n1_ := Aside0.mk (blk_below (g := gb134) (o := .cells #[.int .i64 100, .slice Ao11 y131.length co11] 24 (0, 0)) (by (with_reducible repeat (first | refine blk_drewN ?_ _ | refine blk_drew ?_ | refine blk_alloc ?_ _)); exact BK134.out) hb); have n2_ := Aside0.mk (blk_below (g := gb156) (o := .cells #[.int .i64 t153, .int .i64 t154] 32 (0, 0)) (by (with_reducible repeat (first | refine blk_drewN ?_ _ | refine blk_drew ?_ | refine blk_alloc ?_ _)); exact BK156.out) hb); have n3_ := Aside0.mk (below_step (by repeat (first | (with_reducible first | exact HB.out | apply below_alloc | apply pw_below_drewN | apply below_drew1 | refine below_set ?_ GE134.out | refine below_set ?_ GE156.out) | exact HB.out)) hb); clear HO_135001; clear BK134; clear BK156; clear HB; have HO_135001 := n0_; have BK134 := n1_; have BK156 := n2_; have HB := n3_; clear n0_ n1_ n2_ n3_; (try clear hb); (try clear hb2); (try clear hk); (try clear hi); have hcz57_0 : w56.cell? ⟨gb134, 0, none⟩ = some (.int .i64 100) := (blk_cell BK134.out 0).trans rfl; have hcz57_1 : w56.cell? ⟨gb134, 1, none⟩ = some (.slice Ao11 y131.length co11) := (blk_cell BK134.out 1).trans rfl; have hfz57_0 := blk_frozen BK134.out 0; have hfz57_1 := blk_frozen BK134.out 1) | (go_at_call 24; (with_reducible refine (clock_Before.calls kj30 100 _ _ y131 890 1911 true _ ?side1 ?side2 A46.out).mono ?_); (case side1 => repeat (first | exact (Kd.R_reads' HO_135001.out).2.2 | (with_reducible refine Kd.C_alloc ?_ _) | (with_reducible refine Kd.C_drewN ?_ _) | (with_reducible refine Kd.C_drew ?_))); (case side2 => exact (Kd.R_reads' HO_135001.out).2.1); rintro e w58 ⟨rfl, hb⟩; have n0_ := Aside0.mk (Kd.R_below (by (with_reducible repeat (first | apply Kd.R_alloc | apply Kd.R_drewN | apply Kd.R_drew)); exact HO_135001.out) hb); have n1_ := Aside0.mk (blk_below (g := gb134) (o := .cells #[.int .i64 100, .slice Ao11 y131.length co11] 24 (0, 0)) (by (with_reducible repeat (first | refine blk_drewN ?_ _ | refine blk_drew ?_ | refine blk_alloc ?_ _)); exact BK134.out) hb); have n2_ := Aside0.mk (blk_below (g := gb156) (o := .cells #[.int .i64 t153, .int .i64 t154] 32 (0, 0)) (by (with_reducible repeat (first | refine blk_drewN ?_ _ | refine blk_drew ?_ | refine blk_alloc ?_ _)); exact BK156.out) hb); have n3_ := Aside0.mk (below_step (by repeat (first | (with_reducible first | exact HB.out | apply below_alloc | apply pw_below_drewN | apply below_drew1 | refine below_set ?_ GE134.out | refine below_set ?_ GE156.out) | exact HB.out)) hb); clear HO_135001; clear BK134; clear BK156; clear HB; have HO_135001 := n0_; have BK134 := n1_; have BK156 := n2_; have HB := n3_; clear n0_ n1_ n2_ n3_; (try clear hb); (try clear hb2); (try clear hk); (try clear hi); have hcz59_0 : w58.cell? ⟨gb134, 0, none⟩ = some (.int .i64 100) := (blk_cell BK134.out 0).trans rfl; have hcz59_1 : w58.cell? ⟨gb134, 1, none⟩ = some (.slice Ao11 y131.length co11) := (blk_cell BK134.out 1).trans rfl; have hfz59_0 := blk_frozen BK134.out 0; have hfz59_1 := blk_frozen BK134.out 1) | (go_at_call 24; (with_reducible refine (clock_Before.calls kj30 100 _ _ y131 890 1910 false _ ?side1 ?side2 A48.out).mono ?_); (case side1 => repeat (first | exact (Kd.R_reads' HO_135001.out).2.2 | (with_reducible refine Kd.C_alloc ?_ _) | (with_reducible refine Kd.C_drewN ?_ _) | (with_reducible refine Kd.C_drew ?_))); (case side2 => exact (Kd.R_reads' HO_135001.out).2.1); rintro e w60 ⟨rfl, hb⟩; have n0_ := Aside0.mk (Kd.R_below (by (with_reducible repeat (first | apply Kd.R_alloc | apply Kd.R_drewN | apply Kd.R_drew)); exact HO_135001.out) hb); have n1_ := Aside0.mk (blk_below (g := gb134) (o := .cells #[.int .i64 100, .slice Ao11 y131.length co11] 24 (0, 0)) (by (with_reducible repeat (first | refine blk_drewN ?_ _ | refine blk_drew ?_ | refine blk_alloc ?_ _)); exact BK134.out) hb); have n2_ := Aside0.mk (blk_below (g := gb156) (o := .cells #[.int .i64 t153, .int .i64 t154] 32 (0, 0)) (by (with_reducible repeat (first | refine blk_drewN ?_ _ | refine blk_drew ?_ | refine blk_alloc ?_ _)); exact BK156.out) hb); have n3_ := Aside0.mk (below_step (by repeat (first | (with_reducible first | exact HB.out | apply below_alloc | apply pw_below_drewN | apply below_drew1 | refine below_set ?_ GE134.out | refine below_set ?_ GE156.out) | exact HB.out)) hb); clear HO_135001; clear BK134; clear BK156; clear HB; have HO_135001 := n0_; have BK134 := n1_; have BK156 := n2_; have HB := n3_; clear n0_ n1_ n2_ n3_; (try clear hb); (try clear hb2); (try clear hk); (try clear hi); have hcz61_0 : w60.cell? ⟨gb134, 0, none⟩ = some (.int .i64 100) := (blk_cell BK134.out 0).trans rfl; have hcz61_1 : w60.cell? ⟨gb134, 1, none⟩ = some (.slice Ao11 y131.length co11) := (blk_cell BK134.out 1).trans rfl; have hfz61_0 := blk_frozen BK134.out 0; have hfz61_1 := blk_frozen BK134.out 1) | (go_at_call 26; (with_reducible refine (clock_After.calls kj30 100 _ _ y131 1110 2099 true _ ?side1 ?side2 A50.out).mono ?_); (case side1 => repeat (first | exact (Kd.R_reads' HO_135001.out).2.2 | (with_reducible refine Kd.C_alloc ?_ _) | (with_reducible refine Kd.C_drewN ?_ _) | (with_reducible refine Kd.C_drew ?_))); (case side2 => exact (Kd.R_reads' HO_135001.out).2.1); rintro e w62 ⟨rfl, hb⟩; have n0_ := Aside0.mk (Kd.R_below (by (with_reducible repeat (first | apply Kd.R_alloc | apply Kd.R_drewN | apply Kd.R_drew)); exact HO_135001.out) hb); have n1_ := Aside0.mk (blk_below (g := gb134) (o := .cells #[.int .i64 100, .slice Ao11 y131.length co11] 24 (0, 0)) (by (with_reducible repeat (first | refine blk_drewN ?_ _ | refine blk_drew ?_ | refine blk_alloc ?_ _)); exact BK134.out) hb); have n2_ := Aside0.mk (blk_below (g := gb156) (o := .cells #[.int .i64 t153, .int .i64 t154] 32 (0, 0)) (by (with_reducible repeat (first | refine blk_drewN ?_ _ | refine blk_drew ?_ | refine blk_alloc ?_ _)); exact BK156.out) hb); have n3_ := Aside0.mk (below_step (by repeat (first | (with_reducible first | exact HB.out | apply below_alloc | apply pw_below_drewN | apply below_drew1 | refine below_set ?_ GE134.out | refine below_set ?_ GE156.out) | exact HB.out)) hb); clear HO_135001; clear BK134; clear BK156; clear HB; have HO_135001 := n0_; have BK134 := n1_; have BK156 := n2_; have HB := n3_; clear n0_ n1_ n2_ n3_; (try clear hb); (try clear hb2); (try clear hk); (try clear hi); have hcz63_0 : w62.cell? ⟨gb134, 0, none⟩ = some (.int .i64 100) := (blk_cell BK134.out 0).trans rfl; have hcz63_1 : w62.cell? ⟨gb134, 1, none⟩ = some (.slice Ao11 y131.length co11) := (blk_cell BK134.out 1).trans rfl; have hfz63_0 := blk_frozen BK134.out 0; have hfz63_1 := blk_frozen BK134.out 1) | (go_at_call 26; (with_reducible refine (clock_After.calls kj30 100 _ _ y131 1110 2100 t161 _ ?side1 ?side2 A52.out).mono ?_); (case side1 => repeat (first | exact (Kd.R_reads' HO_135001.out).2.2 | (with_reducible refine Kd.C_alloc ?_ _) | (with_reducible refine Kd.C_drewN ?_ _) | (with_reducible refine Kd.C_drew ?_))); (case side2 => exact (Kd.R_reads' HO_135001.out).2.1); rintro e w64 ⟨rfl, hb⟩; have n0_ := Aside0.mk (Kd.R_below (by (with_reducible repeat (first | apply Kd.R_alloc | apply Kd.R_drewN | apply Kd.R_drew)); exact HO_135001.out) hb); have n1_ := Aside0.mk (blk_below (g := gb134) (o := .cells #[.int .i64 100, .slice Ao11 y131.length co11] 24 (0, 0)) (by (with_reducible repeat (first | refine blk_drewN ?_ _ | refine blk_drew ?_ | refine blk_alloc ?_ _)); exact BK134.out) hb); have n2_ := Aside0.mk (blk_below (g := gb156) (o := .cells #[.int .i64 t153, .int .i64 t154] 32 (0, 0)) (by (with_reducible repeat (first | refine blk_drewN ?_ _ | refine blk_drew ?_ | refine blk_alloc ?_ _)); exact BK156.out) hb); have n3_ := Aside0.mk (below_step (by repeat (first | (with_reducible first | exact HB.out | apply below_alloc | apply pw_below_drewN | apply below_drew1 | refine below_set ?_ GE134.out | refine below_set ?_ GE156.out) | exact HB.out)) hb); clear HO_135001; clear BK134; clear BK156; clear HB; have HO_135001 := n0_; have BK134 := n1_; have BK156 := n2_; have HB := n3_; clear n0_ n1_ n2_ n3_; (try clear hb); (try clear hb2); (try clear hk); (try clear hi)))
                go_ret
                exact ⟨by first | rfl | (simp [errW_none, errW_some] <;> rfl) | (simp [*, errW_none, errW_some] <;> rfl), by repeat (first | (with_reducible first | exact HB.out | apply below_alloc | apply pw_below_drewN | apply below_drew1 | refine below_set ?_ GE134.out | refine below_set ?_ GE156.out) | exact HB.out)⟩
               ·
                replace c51 := Bool.eq_false_iff.mpr c51
                subst c51
                have H1 : (none) = some r := by rw [if_neg (show ¬ (false = true) by decide)] at H; exact H
                clear H
                have H := H1
                clear H1
                exact absurd H (by simp)
             ·
              replace c47 := Bool.eq_false_iff.mpr c47
              subst c47
              have H1 : (none) = some r := by rw [if_neg (show ¬ (false = true) by decide)] at H; exact H
              clear H
              have H := H1
              clear H1
              exact absurd H (by simp)
            ·
             replace c45 := Bool.eq_false_iff.mpr c45
             subst c45
             have H1 : (none) = some r := by rw [if_neg (show ¬ (false = true) by decide)] at H; exact H
             clear H
             have H := H1
             clear H1
             exact absurd H (by simp)
           ·
            rw [if_neg c43] at H
            exact absurd H (by simp)
          ·
           rw [if_neg c42] at H
           exact absurd H (by simp)
         ·
          rw [if_neg c41] at H
          exact absurd H (by simp)
        ·
         rw [if_neg c40] at H
         exact absurd H (by simp)
       ·
        rw [if_neg c39] at H
        exact absurd H (by simp)
      ·
       replace c38 := Bool.eq_false_iff.mpr c38
       subst c38
       have H1 : (none) = some r := by rw [if_neg (show ¬ (false = true) by decide)] at H; exact H
       clear H
       have H := H1
       clear H1
       exact absurd H (by simp)
     ·
      replace c37 := Bool.eq_false_iff.mpr c37
      subst c37
      have H1 : (none) = some r := by rw [if_neg (show ¬ (false = true) by decide)] at H; exact H
      clear H
      have H := H1
      clear H1
      exact absurd H (by simp)

end Go.Proofs.Ythbonailomfjlaa.C
