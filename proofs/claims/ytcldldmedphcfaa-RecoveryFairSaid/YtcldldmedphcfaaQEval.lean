import Derived.Test.YtcldldmedphcfaaQSort
import Derived.Test.YtcldldmedphcfaaHSafe
import Derived.KernelRfl
/- The chapter's examples, reckoned. Condition: none. -/
namespace Go.Proofs.Ytcldldmedphcfaa.C
open Go.RowKit Go.Proofs.YtcldldmedphcfaaW.PrintWords Go.Proofs.YtcldldmedphcfaaW.PrintLast Go.Proofs.YtcldldmedphcfaaW.PrintMore
set_option linter.unusedVariables false
def exS : List S67 := [⟨0, 1⟩, ⟨3, 2⟩]
def exL : List S60 := [⟨5, 0, false⟩, ⟨6, 0, false⟩, ⟨7, 0, false⟩, ⟨8, 1, false⟩, ⟨9, 3, false⟩, ⟨4, 0, true⟩]
def exO : List S60 := [⟨4, 0, true⟩, ⟨5, 0, false⟩, ⟨6, 0, false⟩, ⟨7, 0, false⟩, ⟨8, 1, false⟩, ⟨9, 3, false⟩]
def exP : List S39 := [⟨4, 0, 0⟩, ⟨5, 0, 0⟩, ⟨6, 0, 1⟩, ⟨7, 0, 2⟩, ⟨8, 1, 3⟩, ⟨9, 3, 3⟩]
def exQ : List S39 := [⟨4, 0, 0⟩, ⟨5, 0, 0⟩, ⟨6, 0, 2⟩, ⟨7, 0, 4⟩, ⟨8, 1, 1⟩, ⟨9, 3, 3⟩]
theorem exL_uniq : Uniq exL := by
  intro a ha b hb h
  simp only [exL, List.mem_cons, List.not_mem_nil, or_false] at ha hb
  rcases ha with rfl | rfl | rfl | rfl | rfl | rfl <;> rcases hb with rfl | rfl | rfl | rfl | rfl | rfl <;> first | rfl | simp at h
theorem ex_sorted : sortAtts exL = exO := by
  rw [sortAtts_eq exL_uniq]
  kernel_rfl
theorem ex_valid (s : Int) (h : s = 4 ∨ s = 2) : validB exS s = true := by
  rcases h with rfl | rfl <;> kernel_rfl
theorem ex_ready : readyB exL = true := by kernel_rfl
theorem ex_go : planGo exS exO (fun _ => 0) 0 = some exP := by kernel_rfl
theorem ex_plan (s : Int) (h : s = 4 ∨ s = 2) : recovery_Plan.f exS s exL = some (exP, 0) := by
  unfold recovery_Plan.f
  rw [if_pos (by decide), if_pos (ex_valid s h), if_pos ex_ready, ex_sorted, ex_go]
  rfl
theorem ex_load (t : Int) (h : 0 ≤ t ∧ t ≤ 100) : recovery_Load.f exS 4 exL t = some (loadFn exO exP t, 0) := by
  unfold recovery_Load.f
  rw [ex_plan 4 (Or.inl rfl)]
  simp only [Option.bind_some, if_true]
  rw [if_neg (by omega), if_pos (by omega), ex_sorted]
theorem ex_safe4 : recovery_Safe.f exS 4 exL = some (-1, true) := by
  unfold recovery_Safe.f
  rw [ex_plan 4 (Or.inl rfl)]
  simp only [Option.bind_some, if_true]
  rw [ex_sorted]
  kernel_rfl
theorem ex_safe2 : recovery_Safe.f exS 2 exL = some (0, false) := by
  unfold recovery_Safe.f
  rw [ex_plan 2 (Or.inr rfl)]
  simp only [Option.bind_some, if_true]
  rw [ex_sorted]
  kernel_rfl
/-- The loop of ticks, by the sort in plain words. -/
def stormI (S : List S67) (sig pause : Int) : Nat → Int → List (Int × Int) → (Int → Option Int) → Option ((Int → Option Int) × Int)
  | 0, _, _, _ => none
  | k + 1, t, P, I => if P = [] then some (I, -1) else if sig < (isortI (atT P t)).length then some (I, t) else
      stormI S sig pause k (t + 1) (P.filter (fun x => !decide (x.1 = t)) ++ ((isortI (atT P t)).drop (capL S t).toNat).map (fun i => (t + pause, i))) (setAll I ((isortI (atT P t)).take (capL S t).toNat) t)
theorem storm_eq (S : List S67) (sig pause : Int) : ∀ (k : Nat) (t : Int) (P : List (Int × Int)) (I : Int → Option Int), stormGo S sig pause k t P I = stormI S sig pause k t P I
  | 0, _, _, _ => rfl
  | k + 1, t, P, I => by
    unfold stormGo stormI nextP
    rw [sortInts_eq, storm_eq S sig pause k]
def stormR (S : List S67) (sig pause : Int) (o : List S60) : Option (List S39 × Int × Int) := (stormI S sig pause 10000 0 (pendFrom o 0) (fun _ => none)).map (fun r => (stormOut r.1 r.2 o 0, r.2, 0))
theorem ex_storm (s pause : Int) (h : s = 4 ∨ s = 2) (hp : 1 ≤ pause ∧ pause ≤ 100) : recovery_Storm.f exS s exL pause = stormR exS s pause exO := by
  unfold recovery_Storm.f stormR
  rw [if_pos (by decide), if_pos ⟨ex_valid s h, ex_ready, hp⟩, ex_sorted, storm_eq]
theorem ex_storm1 : recovery_Storm.f exS 4 exL 1 = some (exP, -1, 0) := by
  rw [ex_storm 4 1 (Or.inl rfl) (by omega)]
  kernel_rfl
theorem ex_storm2 : recovery_Storm.f exS 4 exL 2 = some (exQ, -1, 0) := by
  rw [ex_storm 4 2 (Or.inl rfl) (by omega)]
  kernel_rfl
theorem ex_stormq : recovery_Storm.f exS 2 exL 1 = some ([⟨4, 0, 0⟩], 0, 0) := by
  rw [ex_storm 2 1 (Or.inr rfl) (by omega)]
  kernel_rfl
end Go.Proofs.Ytcldldmedphcfaa.C
