import Derived.Test.YtcldldmedphcfaaHOrdered
import Derived.Test.YtcldldmedphcfaaQValid
import Derived.RangeFuncRecord
/- What recovery.Plan answers, in plain words. Condition: fewer than 1000 attempts. -/
namespace Go.Proofs.Ytcldldmedphcfaa.C
open Go.RowKit Go.Proofs.YtcldldmedphcfaaW.PrintWords Go.Proofs.YtcldldmedphcfaaW.PrintLast Go.Proofs.YtcldldmedphcfaaW.PrintMore
set_option linter.unusedVariables false
/-- The first tick from t on at which there is room, of the next k ones. -/
def findOpen (l : List S67) (g : Int → Int) : Nat → Int → Option Int
  | 0, _ => none
  | k + 1, t => if g t < capL l t then some t else findOpen l g k (t + 1)
theorem findOpen_bd (l : List S67) (g : Int → Int) : ∀ (k : Nat) (a t : Int), findOpen l g k a = some t → a ≤ t ∧ t < a + k
  | 0, _, _, h => by cases h
  | k + 1, a, t, h => by
    unfold findOpen at h
    by_cases c : g a < capL l a
    · rw [if_pos c] at h
      have := Option.some.inj h
      omega
    · rw [if_neg c] at h
      have := findOpen_bd l g k (a + 1) t h
      omega
theorem findOpen_room (l : List S67) (g : Int → Int) : ∀ (k : Nat) (a t : Int), findOpen l g k a = some t → g t < capL l t
  | 0, _, _, h => by cases h
  | k + 1, a, t, h => by
    unfold findOpen at h
    by_cases c : g a < capL l a
    · rw [if_pos c] at h
      have := Option.some.inj h
      rw [← this]
      exact c
    · rw [if_neg c] at h
      exact findOpen_room l g k (a + 1) t h
/-- What one more makes of a count. -/
def inc (g : Int → Int) (t : Int) : Int → Int := fun j => if j = t then g t + 1 else g j
/-- The tickets of attempts in their order, g being how many are taken at each tick, nobody finding room before a tick. -/
def planGo (s : List S67) : List S60 → (Int → Int) → Int → Option (List S39)
  | [], _, _ => some []
  | a :: l, g, b => if a.f2 = true then (planGo s l g b).map (fun r => ⟨a.f0, a.f1, a.f1⟩ :: r) else (findOpen s g 2000 (max b a.f1)).bind fun t => (planGo s l (inc g t) t).map (fun r => ⟨a.f0, a.f1, t⟩ :: r)
def recovery_Plan.f (s : List S67) (sig : Int) (l : List S60) : Option (List S39 × Int) :=
  if l.length < 1000 then (if validB s sig = true then (if readyB l = true then (planGo s (sortAtts l) (fun _ => 0) 0).map (fun r => (r, 0)) else some ([], 340)) else some ([], 340)) else none
end Go.Proofs.Ytcldldmedphcfaa.C
