import Derived.Test.YtcldldmedphcfaaHSortA
import Derived.Test.YtcldldmedphcfaaHSortI
import Derived.Test.YtcldldmedphcfaaHClone
/- The contracts of recovery.sorted, at attempts and at whole numbers, and of recovery.ordered: a row of the call's own. Condition: fewer than 1000 elements. -/
namespace Go.Proofs.Ytcldldmedphcfaa.C
open Go.RowKit Go.Proofs.YtcldldmedphcfaaW.PrintWords Go.Proofs.YtcldldmedphcfaaW.PrintLast Go.Proofs.YtcldldmedphcfaaW.PrintMore
set_option linter.unusedVariables false
set_option maxHeartbeats 1000000 in
theorem sorted53.calls (A : Option Addr) (c : Nat) (l : List S60) (w : World) (hr : Kd.C k60 w A l.length l) (hl : l.length < 1000) :
    Calls Try.prog 53 #[.slice A l.length c, .func (.func 54) #[] #[]] w fun e w' => ∃ v : Value, e = .returned v ∧ Kd.R k60 60 w' w.heap.size (fun _ => True) v (sortAtts l) ∧ Below w.heap.size w w' := by
  have HC := Aside0.mk hr
  have HL := Aside0.mk hl
  have HF : Aside0 (sort_attempts_63.f l = some (sortAtts l)) := ⟨by unfold sort_attempts_63.f; rw [if_pos hl]⟩
  clear hr hl
  go_enter Try.func53, Try.ntmps53
  go_wp2_with (first
    | (go_at_call 62; (refine (clone62.calls A c l _ HC.out HL.out).mono ?_); rintro e w1 ⟨v5, rfl, ho, hb⟩; have HO := Aside0.mk ho; have HB := Aside0.mk hb; clear ho hb)
    | (go_at_call 63; (refine (sort_attempts_63.calls (fun _ => True) v5 l (sortAtts l) w _ HB.out HO.out HF.out).mono ?_); rintro e w2 ⟨rfl, ho2, hb2, _⟩; have HO2 := Aside0.mk ho2; have HB2 := Aside0.mk hb2; clear ho2 hb2)
    | go_in)
  go_ret
  exact ⟨_, rfl, Kd.R_mono HO2.out (fun _ _ => trivial), HB2.out⟩
set_option maxHeartbeats 1000000 in
theorem sorted44.calls (A : Option Addr) (c : Nat) (l : List Int) (w : World) (hr : Kd.C (Kd.int .i64) w A l.length l) (hl : l.length < 1000) :
    Calls Try.prog 44 #[.slice A l.length c, .func (.func 45) #[] #[]] w fun e w' => ∃ v : Value, e = .returned v ∧ Kd.R (Kd.int .i64) 3 w' w.heap.size (fun _ => True) v (sortInts l) ∧ Below w.heap.size w w' := by
  have HC := Aside0.mk hr
  have HL := Aside0.mk hl
  clear hr hl
  go_enter Try.func44, Try.ntmps44
  go_wp2_with (first
    | (go_at_call 57; (refine (clone57.calls A c l _ HC.out HL.out).mono ?_); rintro e w1 ⟨v5, rfl, ho, hb⟩; have HO := Aside0.mk ho; have HB := Aside0.mk hb; clear ho hb)
    | (go_at_call 58; (refine (sort_ints_58.calls v5 l w _ HB.out HO.out HL.out).mono ?_); rintro e w2 ⟨rfl, ho2, hb2⟩; have HO2 := Aside0.mk ho2; have HB2 := Aside0.mk hb2; clear ho2 hb2)
    | go_in)
  go_ret
  exact ⟨_, rfl, HO2.out, HB2.out⟩
def recovery_ordered.f (l : List S60) : Option (List S60) := if l.length < 1000 then some (sortAtts l) else none
set_option maxHeartbeats 1000000 in
theorem recovery_ordered.calls (A0 : Option Addr) (c0 : Nat) (l0 : List S60) (r : List S60) (w : World) (hr0 : Kd.C k60 w A0 l0.length l0) (hc0 : l0.length ≤ c0) (h : recovery_ordered.f l0 = some r) :
    Calls Try.prog 41 #[.slice A0 l0.length c0] w fun e w' => ∃ v0_ : Value, e = .returned v0_ ∧ Kd.R k60 60 w' w.heap.size (fun _ => True) v0_ r ∧ Below w.heap.size w w' := by
  unfold recovery_ordered.f at h
  by_cases hl : l0.length < 1000
  · rw [if_pos hl] at h
    have HE := Aside0.mk (Option.some.inj h)
    have HC := Aside0.mk hr0
    have HL := Aside0.mk hl
    clear h hr0 hl hc0
    go_enter Try.func41, Try.ntmps41
    go_wp2_with (first
      | (go_at_call 53; (refine (sorted53.calls A0 c0 l0 _ HC.out HL.out).mono ?_); rintro e w1 ⟨v5, rfl, ho, hb⟩; have HO := Aside0.mk ho; have HB := Aside0.mk hb; clear ho hb)
      | go_in)
    go_ret
    exact ⟨_, rfl, by rw [← HE.out]; exact HO.out, HB.out⟩
  · rw [if_neg hl] at h
    cases h
end Go.Proofs.Ytcldldmedphcfaa.C
