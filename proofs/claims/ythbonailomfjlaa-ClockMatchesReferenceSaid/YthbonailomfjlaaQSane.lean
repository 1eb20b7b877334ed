import Derived.Test.YthbonailomfjlaaQAgree
import Derived.Test.YthbonailomfjlaaQClock
import Derived.Test.YthbonailomfjlaaCSane
/- The chapter's examples hold: sane returns true. No condition. -/
namespace Go.Proofs.Ythbonailomfjlaa.C
open Go.RowKit Go.Proofs.YthbonailomfjlaaW.PrintWords Go.Proofs.YthbonailomfjlaaW.PrintLast Go.Proofs.YthbonailomfjlaaW.PrintMore
/-- The example's reading. -/
def exR : List S50 := [⟨1000, 2000, 2010⟩]
def exS : List S32 := [⟨0, 10⟩, ⟨5, 15⟩, ⟨8, 9⟩, ⟨12, 20⟩]
theorem ex_cnt (s : Int) : cntIn exS s = (if 0 ≤ s ∧ s < 10 then 1 else 0) + ((if 5 ≤ s ∧ s < 15 then 1 else 0) + ((if 8 ≤ s ∧ s < 9 then 1 else 0) + ((if 12 ≤ s ∧ s < 20 then 1 else 0) + 0))) := rfl
theorem ex_agree : AgreeIs exS 8 9 3 := by
  refine ⟨fun s => ?_, by omega, fun h => by omega, fun _ => ⟨by omega, fun s hs => ?_, fun s h1 h2 => ?_, ?_⟩⟩
  · rw [ex_cnt]; split <;> split <;> split <;> split <;> omega
  · rw [ex_cnt]; split <;> split <;> split <;> split <;> omega
  · rw [ex_cnt]; split <;> split <;> split <;> split <;> omega
  · decide
theorem ex_reads : readsR 100 exR 2005 = (994, 1006, 0) := by
  have hv : vld 100 exR = true := by decide
  have a1 := (rdF_iff (d := 100) (l := exR) ⟨by omega, by omega⟩ 2005 994 (by omega) (by omega)).2 (by decide)
  have a2 : ¬ rdF 100 exR 2005 ≤ 993 := fun h => absurd ((rdF_iff (d := 100) (l := exR) ⟨by omega, by omega⟩ 2005 993 (by omega) (by omega)).1 h) (by decide)
  have b1 := (rdB_iff (d := 100) (l := exR) ⟨by omega, by omega⟩ 2005 1007 (by omega) (by omega)).2 (by decide)
  have b2 : ¬ rdB 100 exR 2005 ≤ 1006 := fun h => absurd ((rdB_iff (d := 100) (l := exR) ⟨by omega, by omega⟩ 2005 1006 (by omega) (by omega)).1 h) (by decide)
  have e1 : rdF 100 exR 2005 = 994 := by omega
  have e2 : rdB 100 exR 2005 = 1007 := by omega
  unfold readsR
  rw [if_pos ⟨hv, by omega, by omega⟩, e1, e2]
  rfl
theorem ex_at1 : atR 100 exR 1110 = (2100, 2133, 0) := by decide
theorem ex_at2 : atR 100 exR 890 = (1877, 1910, 0) := by decide
theorem sane_ok : Ev (fun k => dialtonelaw05_sane.f k) true := by
  obtain ⟨a, b, n, ⟨K, hK⟩, hA⟩ := agree_ok exS (by decide)
  obtain ⟨rfl, rfl, rfl⟩ := hA.unique ex_agree
  refine ⟨K + 100, fun k hk => ?_⟩
  obtain ⟨k, rfl⟩ : ∃ q, k = q + 1 + 1 := ⟨k - 2, by omega⟩
  have s1 : clock_Spread.f (k + 1 + 1) 0 7 = some (7, 7) := spread_ok 0 7 (by omega) (by omega) (by omega) (by omega) (k + 1)
  have s2 : clock_Spread.f (k + 1 + 1) 100 0 = some (0, 1) := spread_ok 100 0 (by omega) (by omega) (by omega) (by omega) (k + 1)
  have s3 : clock_Spread.f (k + 1 + 1) 100 110 = some (100, 123) := spread_ok 100 110 (by omega) (by omega) (by omega) (by omega) (k + 1)
  have t1 : clock_At.f (k + 1 + 1) 100 exR 1110 = some (2100, 2133, 0) := by rw [at_ok _ _ _ _ (by omega), ex_at1]
  have t2 : clock_At.f (k + 1 + 1) 100 exR 890 = some (1877, 1910, 0) := by rw [at_ok _ _ _ _ (by omega), ex_at2]
  have u1 : clock_Reads.f 100 exR 2005 = some (994, 1006, 0) := by rw [reads_ok, ex_reads]
  have v1 : clock_Agree.f (k + 1 + 1) exS = some (8, 9, 3) := hK _ (by omega)
  have w1 : clock_Valid.f k 100 exR = some true := by rw [valid_ok _ _ _ (by omega)]; decide
  have x1 : clock_Before.f k 100 exR 890 1911 = some true := by rw [before_ok _ _ _ _ _ (by omega), ex_at2]; decide
  have x2 : clock_Before.f k 100 exR 890 1910 = some false := by rw [before_ok _ _ _ _ _ (by omega), ex_at2]; decide
  have x3 : clock_After.f k 100 exR 1110 2099 = some true := by rw [after_ok _ _ _ _ _ (by omega), ex_at1]; decide
  have x4 : clock_After.f k 100 exR 1110 2100 = some false := by rw [after_ok _ _ _ _ _ (by omega), ex_at1]; decide
  unfold dialtonelaw05_sane.f
  simp only [Option.bind_some]
  change (clock_Spread.f (k + 1 + 1) 0 7).bind (fun bt121 => (clock_Spread.f (k + 1 + 1) 100 0).bind fun bt123 => (clock_Spread.f (k + 1 + 1) 100 110).bind fun bt125 => (clock_At.f (k + 1 + 1) 100 exR 1110).bind fun bt127 => (clock_At.f (k + 1 + 1) 100 exR 890).bind fun bt130 => (clock_Reads.f 100 exR 2005).bind fun bt133 => (clock_Agree.f (k + 1 + 1) exS).bind fun bt139 => _) = _
  rw [s1, s2, s3, t1, t2, u1, v1]
  simp only [Option.bind_some, dialtonelaw05_sane.j0, dialtonelaw05_sane.j1, if_true]
  change (clock_Valid.f k 100 exR).bind (fun t143 => if t143 = true then (clock_Before.f k 100 exR 890 1911).bind fun t144 => if t144 = true then (clock_Before.f k 100 exR 890 1910).bind fun t145 => if t145 = true then none else (clock_After.f k 100 exR 1110 2099).bind fun t146 => if t146 = true then (clock_After.f k 100 exR 1110 2100).bind fun t147 => some (!t147) else none else none else none) = some true
  rw [w1, x1, x2, x3, x4]
  rfl
end Go.Proofs.Ythbonailomfjlaa.C
