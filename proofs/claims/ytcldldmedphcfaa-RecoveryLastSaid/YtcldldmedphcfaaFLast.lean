-- Written for this claim by a program of this session (wip/tools/hprint.py) out of the translation. Lean checks it.
import Derived.Test.YtcldldmedphcfaaCKinds
import Derived.Test.YtcldldmedphcfaaCLast
import Derived.Test.YtcldldmedphcfaaCCapacity
import Derived.Test.YtcldldmedphcfaaCSane
import Derived.Test.YtcldldmedphcfaaCMade
import Derived.Test.YtcldldmedphcfaaCAttempts
namespace Go.Proofs.Ytcldldmedphcfaa.C
open Go.RowKit Go.Proofs.YtcldldmedphcfaaW.PrintWords Go.Proofs.YtcldldmedphcfaaW.PrintLast Go.Proofs.YtcldldmedphcfaaW.PrintMore
attribute [local go_sem] max2_int min2_int max_two min_two max_three min_three max_four min_four   -- for this text's walks alone
set_option linter.unusedVariables false
set_option linter.unusedSimpArgs false

/-! ### dialtonelaw34_RecoveryLast: function 10 -/
mutual
def dialtonelaw34_RecoveryLast.l0 : Nat → List (S60) → Int → Int → Int → List (S67) → Int → Option (Bool)
 | 0, _, _, _, _, _, _ => none
 | k + 1, x9, x10, x12, x13, x625000, x625001 => if x13 < (x9.length : Int) then (if 0 ≤ x13 then (if (rd_T60 x9 x13).f2 = true then (dialtonelaw34_RecoveryLast.l0 k x9 x10 (mx x12 ((rd_T60 x9 x13).f1)) (wrap64 (x13 + 1)) x625000 x625001) else (dialtonelaw34_RecoveryLast.l1 k x9 x10 x12 x13 0 0 x625000 x625001)) else (none)) else (some (x10 == x12))
def dialtonelaw34_RecoveryLast.l1 : Nat → List (S60) → Int → Int → Int → Int → Int → List (S67) → Int → Option (Bool)
 | 0, _, _, _, _, _, _, _, _ => none
 | k + 1, x9, x10, x12, x13, x14, x15, x625000, x625001 => if x15 < (x9.length : Int) then (if 0 ≤ x15 then (if ((rd_T60 x9 x15).f2 = true) then (dialtonelaw34_RecoveryLast.j2 k x9 x10 x12 x13 x14 x15 false x625000 x625001) else (if 0 ≤ x13 then (if x13 < (x9.length : Int) then (dialtonelaw34_RecoveryLast.j2 k x9 x10 x12 x13 x14 x15 (decide (((rd_T60 x9 x15).f1) ≥ ((rd_T60 x9 x13).f1))) x625000 x625001) else (none)) else (none))) else (none)) else (if 0 ≤ x13 then (if x13 < (x9.length : Int) then (dialtonelaw34_RecoveryLast.l2 k x9 x10 x12 x13 x14 (wrap64 (((rd_T60 x9 x13).f1) - 1)) x625000 x625001) else (none)) else (none))
def dialtonelaw34_RecoveryLast.j2 : Nat → List (S60) → Int → Int → Int → Int → Int → Bool → List (S67) → Int → Option (Bool)
 | 0, _, _, _, _, _, _, _, _, _ => none
 | k + 1, x9, x10, x12, x13, x14, x15, x77, x625000, x625001 => if x77 = true then (dialtonelaw34_RecoveryLast.l1 k x9 x10 x12 x13 (wrap64 (x14 + 1)) (wrap64 (x15 + 1)) x625000 x625001) else (dialtonelaw34_RecoveryLast.l1 k x9 x10 x12 x13 x14 (wrap64 (x15 + 1)) x625000 x625001)
def dialtonelaw34_RecoveryLast.l2 : Nat → List (S60) → Int → Int → Int → Int → Int → List (S67) → Int → Option (Bool)
 | 0, _, _, _, _, _, _, _, _ => none
 | k + 1, x9, x10, x12, x13, x14, x16, x625000, x625001 => if x14 > 0 then (dialtonelaw34_RecoveryLast.j4 k x9 x10 x12 x13 x14 x16 (decide (x16 < 1000)) x625000 x625001) else (dialtonelaw34_RecoveryLast.j4 k x9 x10 x12 x13 x14 x16 false x625000 x625001)
def dialtonelaw34_RecoveryLast.j4 : Nat → List (S60) → Int → Int → Int → Int → Int → Bool → List (S67) → Int → Option (Bool)
 | 0, _, _, _, _, _, _, _, _, _ => none
 | k + 1, x9, x10, x12, x13, x14, x16, x91, x625000, x625001 => if x91 = true then ((recovery_Capacity.f k x625000 x625001 (wrap64 (x16 + 1))).bind fun bt636 => (if bt636.2 = 0 then (dialtonelaw34_RecoveryLast.l2 k x9 x10 x12 x13 (wrap64 (x14 - bt636.1)) (wrap64 (x16 + 1)) x625000 x625001) else (none))) else (dialtonelaw34_RecoveryLast.l0 k x9 x10 (mx x12 x16) (wrap64 (x13 + 1)) x625000 x625001)
end
def dialtonelaw34_RecoveryLast.f (k : Nat) (l0 : List (S71)) (a1 : Int) (l2 : List (S71)) : Option (Bool) := (dialtonelaw34_sane.f k).bind fun t619 => (if t619 = true then ((dialtoneref34_Made.f k l0 a1).bind fun bt620 => ((dialtoneref34_Attempts.f k l2).bind fun t625 => ((recovery_Last.f k bt620.1 bt620.2 t625).bind fun bt628 => (if bt628.2 = 0 then (dialtonelaw34_RecoveryLast.l0 k t625 bt628.1 (-1) 0 bt620.1 bt620.2) else (none))))) else (none))
theorem dialtonelaw34_RecoveryLast.mono_l : ∀ k, (∀ y0 y1 y2 y3 y4 y5, LeO (dialtonelaw34_RecoveryLast.l0 k y0 y1 y2 y3 y4 y5) (dialtonelaw34_RecoveryLast.l0 (k + 1) y0 y1 y2 y3 y4 y5)) ∧ (∀ y0 y1 y2 y3 y4 y5 y6 y7, LeO (dialtonelaw34_RecoveryLast.l1 k y0 y1 y2 y3 y4 y5 y6 y7) (dialtonelaw34_RecoveryLast.l1 (k + 1) y0 y1 y2 y3 y4 y5 y6 y7)) ∧ (∀ y0 y1 y2 y3 y4 y5 y6 y7 y8, LeO (dialtonelaw34_RecoveryLast.j2 k y0 y1 y2 y3 y4 y5 y6 y7 y8) (dialtonelaw34_RecoveryLast.j2 (k + 1) y0 y1 y2 y3 y4 y5 y6 y7 y8)) ∧ (∀ y0 y1 y2 y3 y4 y5 y6 y7, LeO (dialtonelaw34_RecoveryLast.l2 k y0 y1 y2 y3 y4 y5 y6 y7) (dialtonelaw34_RecoveryLast.l2 (k + 1) y0 y1 y2 y3 y4 y5 y6 y7)) ∧ (∀ y0 y1 y2 y3 y4 y5 y6 y7 y8, LeO (dialtonelaw34_RecoveryLast.j4 k y0 y1 y2 y3 y4 y5 y6 y7 y8) (dialtonelaw34_RecoveryLast.j4 (k + 1) y0 y1 y2 y3 y4 y5 y6 y7 y8))
 | 0 => ⟨fun _ _ _ _ _ _ r h => by simp [dialtonelaw34_RecoveryLast.l0] at h, fun _ _ _ _ _ _ _ _ r h => by simp [dialtonelaw34_RecoveryLast.l1] at h, fun _ _ _ _ _ _ _ _ _ r h => by simp [dialtonelaw34_RecoveryLast.j2] at h, fun _ _ _ _ _ _ _ _ r h => by simp [dialtonelaw34_RecoveryLast.l2] at h, fun _ _ _ _ _ _ _ _ _ r h => by simp [dialtonelaw34_RecoveryLast.j4] at h⟩
 | k + 1 => by
  obtain ⟨ih0, ih1, ih2, ih3, ih4⟩ := dialtonelaw34_RecoveryLast.mono_l k
  refine ⟨?_, ?_, ?_, ?_, ?_⟩
  ·
   intro y0 y1 y2 y3 y4 y5
   unfold dialtonelaw34_RecoveryLast.l0
   repeat' first
   | (with_reducible exact ih0 _ _ _ _ _ _)
   | (with_reducible exact ih1 _ _ _ _ _ _ _ _)
   | (with_reducible exact ih2 _ _ _ _ _ _ _ _ _)
   | (with_reducible exact ih3 _ _ _ _ _ _ _ _)
   | (with_reducible exact ih4 _ _ _ _ _ _ _ _ _)
   | (with_reducible exact dialtonelaw34_sane.mono _)
   | (with_reducible exact dialtoneref34_Attempts.mono _ _)
   | (with_reducible exact dialtoneref34_Made.mono _ _ _)
   | (with_reducible exact recovery_Capacity.mono _ _ _ _)
   | (with_reducible exact recovery_Last.mono _ _ _ _)
   | (with_reducible exact LeO.refl _)
   | (with_reducible exact LeO.none _)
   | (with_reducible refine LeO.ite ?_ ?_)
   | (with_reducible refine LeO.bind ?_ (fun _ => ?_))
   | exact ih0 _ _ _ _ _ _
   | exact ih1 _ _ _ _ _ _ _ _
   | exact ih2 _ _ _ _ _ _ _ _ _
   | exact ih3 _ _ _ _ _ _ _ _
   | exact ih4 _ _ _ _ _ _ _ _ _
   | exact dialtonelaw34_sane.mono _
   | exact dialtoneref34_Attempts.mono _ _
   | exact dialtoneref34_Made.mono _ _ _
   | exact recovery_Capacity.mono _ _ _ _
   | exact recovery_Last.mono _ _ _ _
   | exact LeO.none _
   | refine LeO.ite ?_ ?_
   | refine LeO.bind ?_ (fun _ => ?_)
  ·
   intro y0 y1 y2 y3 y4 y5 y6 y7
   unfold dialtonelaw34_RecoveryLast.l1
   repeat' first
   | (with_reducible exact ih0 _ _ _ _ _ _)
   | (with_reducible exact ih1 _ _ _ _ _ _ _ _)
   | (with_reducible exact ih2 _ _ _ _ _ _ _ _ _)
   | (with_reducible exact ih3 _ _ _ _ _ _ _ _)
   | (with_reducible exact ih4 _ _ _ _ _ _ _ _ _)
   | (with_reducible exact dialtonelaw34_sane.mono _)
   | (with_reducible exact dialtoneref34_Attempts.mono _ _)
   | (with_reducible exact dialtoneref34_Made.mono _ _ _)
   | (with_reducible exact recovery_Capacity.mono _ _ _ _)
   | (with_reducible exact recovery_Last.mono _ _ _ _)
   | (with_reducible exact LeO.refl _)
   | (with_reducible exact LeO.none _)
   | (with_reducible refine LeO.ite ?_ ?_)
   | (with_reducible refine LeO.bind ?_ (fun _ => ?_))
   | exact ih0 _ _ _ _ _ _
   | exact ih1 _ _ _ _ _ _ _ _
   | exact ih2 _ _ _ _ _ _ _ _ _
   | exact ih3 _ _ _ _ _ _ _ _
   | exact ih4 _ _ _ _ _ _ _ _ _
   | exact dialtonelaw34_sane.mono _
   | exact dialtoneref34_Attempts.mono _ _
   | exact dialtoneref34_Made.mono _ _ _
   | exact recovery_Capacity.mono _ _ _ _
   | exact recovery_Last.mono _ _ _ _
   | exact LeO.none _
   | refine LeO.ite ?_ ?_
   | refine LeO.bind ?_ (fun _ => ?_)
  ·
   intro y0 y1 y2 y3 y4 y5 y6 y7 y8
   unfold dialtonelaw34_RecoveryLast.j2
   repeat' first
   | (with_reducible exact ih0 _ _ _ _ _ _)
   | (with_reducible exact ih1 _ _ _ _ _ _ _ _)
   | (with_reducible exact ih2 _ _ _ _ _ _ _ _ _)
   | (with_reducible exact ih3 _ _ _ _ _ _ _ _)
   | (with_reducible exact ih4 _ _ _ _ _ _ _ _ _)
   | (with_reducible exact dialtonelaw34_sane.mono _)
   | (with_reducible exact dialtoneref34_Attempts.mono _ _)
   | (with_reducible exact dialtoneref34_Made.mono _ _ _)
   | (with_reducible exact recovery_Capacity.mono _ _ _ _)
   | (with_reducible exact recovery_Last.mono _ _ _ _)
   | (with_reducible exact LeO.refl _)
   | (with_reducible exact LeO.none _)
   | (with_reducible refine LeO.ite ?_ ?_)
   | (with_reducible refine LeO.bind ?_ (fun _ => ?_))
   | exact ih0 _ _ _ _ _ _
   | exact ih1 _ _ _ _ _ _ _ _
   | exact ih2 _ _ _ _ _ _ _ _ _
   | exact ih3 _ _ _ _ _ _ _ _
   | exact ih4 _ _ _ _ _ _ _ _ _
   | exact dialtonelaw34_sane.mono _
   | exact dialtoneref34_Attempts.mono _ _
   | exact dialtoneref34_Made.mono _ _ _
   | exact recovery_Capacity.mono _ _ _ _
   | exact recovery_Last.mono _ _ _ _
   | exact LeO.none _
   | refine LeO.ite ?_ ?_
   | refine LeO.bind ?_ (fun _ => ?_)
  ·
   intro y0 y1 y2 y3 y4 y5 y6 y7
   unfold dialtonelaw34_RecoveryLast.l2
   repeat' first
   | (with_reducible exact ih0 _ _ _ _ _ _)
   | (with_reducible exact ih1 _ _ _ _ _ _ _ _)
   | (with_reducible exact ih2 _ _ _ _ _ _ _ _ _)
   | (with_reducible exact ih3 _ _ _ _ _ _ _ _)
   | (with_reducible exact ih4 _ _ _ _ _ _ _ _ _)
   | (with_reducible exact dialtonelaw34_sane.mono _)
   | (with_reducible exact dialtoneref34_Attempts.mono _ _)
   | (with_reducible exact dialtoneref34_Made.mono _ _ _)
   | (with_reducible exact recovery_Capacity.mono _ _ _ _)
   | (with_reducible exact recovery_Last.mono _ _ _ _)
   | (with_reducible exact LeO.refl _)
   | (with_reducible exact LeO.none _)
   | (with_reducible refine LeO.ite ?_ ?_)
   | (with_reducible refine LeO.bind ?_ (fun _ => ?_))
   | exact ih0 _ _ _ _ _ _
   | exact ih1 _ _ _ _ _ _ _ _
   | exact ih2 _ _ _ _ _ _ _ _ _
   | exact ih3 _ _ _ _ _ _ _ _
   | exact ih4 _ _ _ _ _ _ _ _ _
   | exact dialtonelaw34_sane.mono _
   | exact dialtoneref34_Attempts.mono _ _
   | exact dialtoneref34_Made.mono _ _ _
   | exact recovery_Capacity.mono _ _ _ _
   | exact recovery_Last.mono _ _ _ _
   | exact LeO.none _
   | refine LeO.ite ?_ ?_
   | refine LeO.bind ?_ (fun _ => ?_)
  ·
   intro y0 y1 y2 y3 y4 y5 y6 y7 y8
   unfold dialtonelaw34_RecoveryLast.j4
   repeat' first
   | (with_reducible exact ih0 _ _ _ _ _ _)
   | (with_reducible exact ih1 _ _ _ _ _ _ _ _)
   | (with_reducible exact ih2 _ _ _ _ _ _ _ _ _)
   | (with_reducible exact ih3 _ _ _ _ _ _ _ _)
   | (with_reducible exact ih4 _ _ _ _ _ _ _ _ _)
   | (with_reducible exact dialtonelaw34_sane.mono _)
   | (with_reducible exact dialtoneref34_Attempts.mono _ _)
   | (with_reducible exact dialtoneref34_Made.mono _ _ _)
   | (with_reducible exact recovery_Capacity.mono _ _ _ _)
   | (with_reducible exact recovery_Last.mono _ _ _ _)
   | (with_reducible exact LeO.refl _)
   | (with_reducible exact LeO.none _)
   | (with_reducible refine LeO.ite ?_ ?_)
   | (with_reducible refine LeO.bind ?_ (fun _ => ?_))
   | exact ih0 _ _ _ _ _ _
   | exact ih1 _ _ _ _ _ _ _ _
   | exact ih2 _ _ _ _ _ _ _ _ _
   | exact ih3 _ _ _ _ _ _ _ _
   | exact ih4 _ _ _ _ _ _ _ _ _
   | exact dialtonelaw34_sane.mono _
   | exact dialtoneref34_Attempts.mono _ _
   | exact dialtoneref34_Made.mono _ _ _
   | exact recovery_Capacity.mono _ _ _ _
   | exact recovery_Last.mono _ _ _ _
   | exact LeO.none _
   | refine LeO.ite ?_ ?_
   | refine LeO.bind ?_ (fun _ => ?_)
theorem dialtonelaw34_RecoveryLast.mono : ∀ a0 a1 a2 k, LeO (dialtonelaw34_RecoveryLast.f k a0 a1 a2) (dialtonelaw34_RecoveryLast.f (k + 1) a0 a1 a2) := by
 intro a0 a1 a2 k
 obtain ⟨ih0, ih1, ih2, ih3, ih4⟩ := dialtonelaw34_RecoveryLast.mono_l k
 unfold dialtonelaw34_RecoveryLast.f
 repeat' first
   | (with_reducible exact ih0 _ _ _ _ _ _)
   | (with_reducible exact ih1 _ _ _ _ _ _ _ _)
   | (with_reducible exact ih2 _ _ _ _ _ _ _ _ _)
   | (with_reducible exact ih3 _ _ _ _ _ _ _ _)
   | (with_reducible exact ih4 _ _ _ _ _ _ _ _ _)
   | (with_reducible exact dialtonelaw34_sane.mono _)
   | (with_reducible exact dialtoneref34_Attempts.mono _ _)
   | (with_reducible exact dialtoneref34_Made.mono _ _ _)
   | (with_reducible exact recovery_Capacity.mono _ _ _ _)
   | (with_reducible exact recovery_Last.mono _ _ _ _)
   | (with_reducible exact LeO.refl _)
   | (with_reducible exact LeO.none _)
   | (with_reducible refine LeO.ite ?_ ?_)
   | (with_reducible refine LeO.bind ?_ (fun _ => ?_))
   | exact ih0 _ _ _ _ _ _
   | exact ih1 _ _ _ _ _ _ _ _
   | exact ih2 _ _ _ _ _ _ _ _ _
   | exact ih3 _ _ _ _ _ _ _ _
   | exact ih4 _ _ _ _ _ _ _ _ _
   | exact dialtonelaw34_sane.mono _
   | exact dialtoneref34_Attempts.mono _ _
   | exact dialtoneref34_Made.mono _ _ _
   | exact recovery_Capacity.mono _ _ _ _
   | exact recovery_Last.mono _ _ _ _
   | exact LeO.none _
   | refine LeO.ite ?_ ?_
   | refine LeO.bind ?_ (fun _ => ?_)
set_option maxHeartbeats 8000000 in
set_option maxRecDepth 100000 in
theorem dialtonelaw34_RecoveryLast.calls (k : Nat) (A0 : Option Addr) (c0 : Nat) (l0 : List (S71)) (a1 : Int) (A2 : Option Addr) (c2 : Nat) (l2 : List (S71)) (r : Bool) (w : World) (hr0 : Kd.C k71 w A0 l0.length l0) (hc0 : l0.length ≤ c0) (hr2 : Kd.C k71 w A2 l2.length l2) (hc2 : l2.length ≤ c2) (h : dialtonelaw34_RecoveryLast.f k l0 a1 l2 = some r) :
  Calls Try.prog 10 #[.slice A0 l0.length c0, .int .i64 a1, .slice A2 l2.length c2] w fun e w' => e = .returned (.bool r) ∧ Below w.heap.size w w' := by
 have hu26 := Try.underlying26
 have HR0 := Aside0.mk hr0
 have HC0 := Aside0.mk hc0
 clear hr0 hc0
 have HR2 := Aside0.mk hr2
 have HC2 := Aside0.mk hc2
 clear hr2 hc2
 have HB := Aside0.mk (Below.refl w.heap.size w)
 have H : ((dialtonelaw34_sane.f k).bind fun t619 => (if t619 = true then ((dialtoneref34_Made.f k l0 a1).bind fun bt620 => ((dialtoneref34_Attempts.f k l2).bind fun t625 => ((recovery_Last.f k bt620.1 bt620.2 t625).bind fun bt628 => (if bt628.2 = 0 then (dialtonelaw34_RecoveryLast.l0 k t625 bt628.1 (-1) 0 bt620.1 bt620.2) else (none))))) else (none))) = some r := h
 clear h
 replace H := Option.bind_eq_some_iff.mp H
 obtain ⟨t619, A40, H⟩ := H
 replace H : (if t619 = true then ((dialtoneref34_Made.f k l0 a1).bind fun bt620 => ((dialtoneref34_Attempts.f k l2).bind fun t625 => ((recovery_Last.f k bt620.1 bt620.2 t625).bind fun bt628 => (if bt628.2 = 0 then (dialtonelaw34_RecoveryLast.l0 k t625 bt628.1 (-1) 0 bt620.1 bt620.2) else (none))))) else (none)) = some r := H
 have A4 := Aside0.mk A40
 clear A40
 by_cases c5 : t619 = true
 ·
  subst c5
  have H1 : ((dialtoneref34_Made.f k l0 a1).bind fun bt620 => ((dialtoneref34_Attempts.f k l2).bind fun t625 => ((recovery_Last.f k bt620.1 bt620.2 t625).bind fun bt628 => (if bt628.2 = 0 then (dialtonelaw34_RecoveryLast.l0 k t625 bt628.1 (-1) 0 bt620.1 bt620.2) else (none))))) = some r := by rw [if_pos rfl] at H; exact H
  clear H
  have H := H1
  clear H1
  replace H := Option.bind_eq_some_iff.mp H
  obtain ⟨⟨t620, t623⟩, A60, H⟩ := H
  replace H : ((dialtoneref34_Attempts.f k l2).bind fun t625 => ((recovery_Last.f k t620 t623 t625).bind fun bt628 => (if bt628.2 = 0 then (dialtonelaw34_RecoveryLast.l0 k t625 bt628.1 (-1) 0 t620 t623) else (none)))) = some r := H
  have A6 := Aside0.mk A60
  clear A60
  replace H := Option.bind_eq_some_iff.mp H
  obtain ⟨t625, A70, H⟩ := H
  replace H : ((recovery_Last.f k t620 t623 t625).bind fun bt628 => (if bt628.2 = 0 then (dialtonelaw34_RecoveryLast.l0 k t625 bt628.1 (-1) 0 t620 t623) else (none))) = some r := H
  have A7 := Aside0.mk A70
  clear A70
  replace H := Option.bind_eq_some_iff.mp H
  obtain ⟨⟨t628, t629⟩, A80, H⟩ := H
  replace H : (if t629 = 0 then (dialtonelaw34_RecoveryLast.l0 k t625 t628 (-1) 0 t620 t623) else (none)) = some r := H
  have A8 := Aside0.mk A80
  clear A80
  by_cases c9 : t629 = 0
  ·
   rw [if_pos c9] at H
   have c9b0 : (t629 == 0) = true := beq_iff_eq.mpr c9
   have c9b1 : (t629 != 0) = false := bne_eq_false_iff_eq.mpr c9
   clear c9
   have H' := Aside0.mk H
   clear H
   go_enter Try.func10, Try.ntmps10
   go_wp2_with (first | (go_at_call 13; (with_reducible refine (dialtonelaw34_sane.calls k  true _ A4.out).mono ?_); rintro e w10 ⟨rfl, hb⟩; have n0_ := Aside0.mk (below_step (by repeat (first | (with_reducible first | exact HB.out | apply below_alloc | apply pw_below_drewN | apply below_drew1) | exact HB.out)) hb); clear HB; have HB := n0_; clear n0_; (try clear hb); (try clear hb2); (try clear hk); (try clear hi)) | (go_at_call 14; (with_reducible refine (dialtoneref34_Made.calls k _ _ l0 a1 t620 t623 _ ?side1 ?side2 A6.out).mono ?_); (case side1 => repeat (first | exact (Kd.C_below HR0.out HB.out) | (with_reducible refine Kd.C_alloc ?_ _) | (with_reducible refine Kd.C_drewN ?_ _) | (with_reducible refine Kd.C_drew ?_))); (case side2 => exact HC0.out); rintro e w11 ⟨v621, rfl, ho0, hb⟩; have n0_ := Aside0.mk (Kd.R_lower ho0 (below_size (by repeat (first | (with_reducible first | exact HB.out | apply below_alloc | apply pw_below_drewN | apply below_drew1) | exact HB.out)))); have n1_ := Aside0.mk (below_step (by repeat (first | (with_reducible first | exact HB.out | apply below_alloc | apply pw_below_drewN | apply below_drew1) | exact HB.out)) hb); clear HB; have HO622 := n0_; have HB := n1_; clear n0_ n1_; (try clear hb); (try clear hb2); (try clear hk); (try clear hi); (try clear ho0)) | ((with_reducible refine gate_dst (N := 8) rfl ?_); refine box_event ?hg (N := 8) ?hd (cs := #[.slice none 0 0, .int .i64 0]) (t := 26) ?hr ?_; (case hd => rfl); (case hg => rfl); (case hr => first | (go_simp; done) | (go_simp; rfl)); intro gb624 hg w12 hbox hb; have n0_ := Aside0.mk (Kd.R_below (by (with_reducible repeat (first | apply Kd.R_alloc | apply Kd.R_drewN | apply Kd.R_drew)); exact HO622.out) hb); have n1_ := Aside0.mk (below_step (by repeat (first | (with_reducible first | exact HB.out | apply below_alloc | apply pw_below_drewN | apply below_drew1) | exact HB.out)) hb); have n2_ := Aside0.mk (hbox); have n3_ := Aside0.mk ((by rw [hg]; exact (below_size (by repeat (first | (with_reducible first | exact HB.out | apply below_alloc | apply pw_below_drewN | apply below_drew1) | exact HB.out))) : w.heap.size ≤ gb624)); have n4_ := Aside0.mk ((by rw [hg]; exact (below_size (by repeat (first | (with_reducible first | exact HB.out | apply below_alloc | apply pw_below_drewN | apply below_drew1) | exact HB.out))) : w.heap.size ≤ gb624)); clear HO622; clear HB; have HO622 := n0_; have HB := n1_; have BK624 := n2_; have GW624 := n3_; have GE624 := n4_; clear n0_ n1_ n2_ n3_ n4_; clear hb hbox hg; obtain ⟨Ao13, co13, eo13⟩ := Kd.R_slice HO622.out; subst eo13; have hcz14_0 : w12.cell? ⟨gb624, 0, none⟩ = some (.slice none 0 0) := (blk_cell BK624.out 0).trans rfl; have hcz14_1 : w12.cell? ⟨gb624, 1, none⟩ = some (.int .i64 0) := (blk_cell BK624.out 1).trans rfl; have hfz14_0 := blk_frozen BK624.out 0; have hfz14_1 := blk_frozen BK624.out 1) | (go_at_call 15; (with_reducible refine (dialtoneref34_Attempts.calls k _ _ l2 t625 _ ?side1 ?side2 A7.out).mono ?_); (case side1 => exact Kd.C_below HR2.out (by repeat (first | (with_reducible first | exact HB.out | apply below_alloc | apply pw_below_drewN | apply below_drew1 | refine below_set ?_ GE624.out) | exact HB.out))); (case side2 => exact HC2.out); rintro e w15 ⟨v626, rfl, ho0, hb⟩; have n0_ := Aside0.mk (Kd.R_below (by (with_reducible repeat (first | apply Kd.R_alloc | apply Kd.R_drewN | apply Kd.R_drew)); exact (Kd.R_mono (Kd.R_far (p := ⟨gb624, 1, none⟩) (Kd.R_far (p := ⟨gb624, 0, none⟩) (Kd.R_types HO622.out BK624.out (by decide)) (fun _ hk => hk.2) (.slice Ao13 t620.length co13)) (fun _ hk => hk.2) (.int .i64 t623)) (fun _ h_ => h_.1))) hb); have n1_ := Aside0.mk (Kd.R_lower ho0 (below_size (by repeat (first | (with_reducible first | exact HB.out | apply below_alloc | apply pw_below_drewN | apply below_drew1 | refine below_set ?_ GE624.out) | exact HB.out)))); have n2_ := Aside0.mk (blk_below (g := gb624) (o := .cells #[.slice Ao13 t620.length co13, .int .i64 t623] 26 (0, 0)) (by (with_reducible repeat (first | refine blk_drewN ?_ _ | refine blk_drew ?_ | refine blk_alloc ?_ _)); refine blk_put (cs := #[.slice Ao13 t620.length co13, .int .i64 0]) ?_ 1 _ rfl; (with_reducible repeat (first | refine blk_drewN ?_ _ | refine blk_drew ?_ | refine blk_alloc ?_ _)); refine blk_put (cs := #[.slice none 0 0, .int .i64 0]) ?_ 0 _ rfl; (with_reducible repeat (first | refine blk_drewN ?_ _ | refine blk_drew ?_ | refine blk_alloc ?_ _)); exact BK624.out) hb); have n3_ := Aside0.mk (below_step (by repeat (first | (with_reducible first | exact HB.out | apply below_alloc | apply pw_below_drewN | apply below_drew1 | refine below_set ?_ GE624.out) | exact HB.out)) hb); clear HO622; clear BK624; clear HB; have HO622 := n0_; have HO627 := n1_; have BK624 := n2_; have HB := n3_; clear n0_ n1_ n2_ n3_; (try clear hb); (try clear hb2); (try clear hk); (try clear hi); (try clear ho0); have hcz16_0 : w15.cell? ⟨gb624, 0, none⟩ = some (.slice Ao13 t620.length co13) := (blk_cell BK624.out 0).trans rfl; have hcz16_1 : w15.cell? ⟨gb624, 1, none⟩ = some (.int .i64 t623) := (blk_cell BK624.out 1).trans rfl; have hfz16_0 := blk_frozen BK624.out 0; have hfz16_1 := blk_frozen BK624.out 1; obtain ⟨Ao17, co17, eo17⟩ := Kd.R_slice HO627.out; subst eo17) | (go_at_call 26; (with_reducible refine (recovery_Last.calls k _ _ t620 t623 _ _ t625 t628 t629 _ ?side1 ?side2 ?side3 ?side4 A8.out).mono ?_); (case side1 => repeat (first | exact (Kd.R_reads' HO622.out).2.2 | (with_reducible refine Kd.C_alloc ?_ _) | (with_reducible refine Kd.C_drewN ?_ _) | (with_reducible refine Kd.C_drew ?_))); (case side2 => exact (Kd.R_reads' HO622.out).2.1); (case side3 => repeat (first | exact (Kd.R_reads' HO627.out).2.2 | (with_reducible refine Kd.C_alloc ?_ _) | (with_reducible refine Kd.C_drewN ?_ _) | (with_reducible refine Kd.C_drew ?_))); (case side4 => exact (Kd.R_reads' HO627.out).2.1); rintro e w18 ⟨rfl, hb⟩; have n0_ := Aside0.mk (Kd.R_below (by (with_reducible repeat (first | apply Kd.R_alloc | apply Kd.R_drewN | apply Kd.R_drew)); exact HO622.out) hb); have n1_ := Aside0.mk (Kd.R_below (by (with_reducible repeat (first | apply Kd.R_alloc | apply Kd.R_drewN | apply Kd.R_drew)); exact HO627.out) hb); have n2_ := Aside0.mk (blk_below (g := gb624) (o := .cells #[.slice Ao13 t620.length co13, .int .i64 t623] 26 (0, 0)) (by (with_reducible repeat (first | refine blk_drewN ?_ _ | refine blk_drew ?_ | refine blk_alloc ?_ _)); exact BK624.out) hb); have n3_ := Aside0.mk (below_step (by repeat (first | (with_reducible first | exact HB.out | apply below_alloc | apply pw_below_drewN | apply below_drew1 | refine below_set ?_ GE624.out) | exact HB.out)) hb); clear HO622; clear HO627; clear BK624; clear HB; have HO622 := n0_; have HO627 := n1_; have BK624 := n2_; have HB := n3_; clear n0_ n1_ n2_ n3_; (try clear hb); (try clear hb2); (try clear hk); (try clear hi)))
   repeat (go_quiet (first | (go_at_call 13; (with_reducible refine (dialtonelaw34_sane.calls k  true _ A4.out).mono ?_); rintro e w10 ⟨rfl, hb⟩; have n0_ := Aside0.mk (below_step (by repeat (first | (with_reducible first | exact HB.out | apply below_alloc | apply pw_below_drewN | apply below_drew1) | exact HB.out)) hb); clear HB; have HB := n0_; clear n0_; (try clear hb); (try clear hb2); (try clear hk); (try clear hi)) | (go_at_call 14; (with_reducible refine (dialtoneref34_Made.calls k _ _ l0 a1 t620 t623 _ ?side1 ?side2 A6.out).mono ?_); (case side1 => repeat (first | exact (Kd.C_below HR0.out HB.out) | (with_reducible refine Kd.C_alloc ?_ _) | (with_reducible refine Kd.C_drewN ?_ _) | (with_reducible refine Kd.C_drew ?_))); (case side2 => exact HC0.out); rintro e w11 ⟨v621, rfl, ho0, hb⟩; have n0_ := Aside0.mk (Kd.R_lower ho0 (below_size (by repeat (first | (with_reducible first | exact HB.out | apply below_alloc | apply pw_below_drewN | apply below_drew1) | exact HB.out)))); have n1_ := Aside0.mk (below_step (by repeat (first | (with_reducible first | exact HB.out | apply below_alloc | apply pw_below_drewN | apply below_drew1) | exact HB.out)) hb); clear HB; have HO622 := n0_; have HB := n1_; clear n0_ n1_; (try clear hb); (try clear hb2); (try clear hk); (try clear hi); (try clear ho0)) | ((with_reducible refine gate_dst (N := 8) rfl ?_); refine box_event ?hg (N := 8) ?hd (cs := #[.slice none 0 0, .int .i64 0]) (t := 26) ?hr ?_; (case hd => rfl); (case hg => rfl); (case hr => first | (go_simp; done) | (go_simp; rfl)); intro gb624 hg w12 hbox hb; have n0_ := Aside0.mk (Kd.R_below (by (with_reducible repeat (first | apply Kd.R_alloc | apply Kd.R_drewN | apply Kd.R_drew)); exact HO622.out) hb); have n1_ := Aside0.mk (below_step (by repeat (first | (with_reducible first | exact HB.out | apply below_alloc | apply pw_below_drewN | apply below_drew1) | exact HB.out)) hb); have n2_ := Aside0.mk (hbox); have n3_ := Aside0.mk ((by rw [hg]; exact (below_size (by repeat (first | (with_reducible first | exact HB.out | apply below_alloc | apply pw_below_drewN | apply below_drew1) | exact HB.out))) : w.heap.size ≤ gb624)); have n4_ := Aside0.mk ((by rw [hg]; exact (below_size (by repeat (first | (with_reducible first | exact HB.out | apply below_alloc | apply pw_below_drewN | apply below_drew1) | exact HB.out))) : w.heap.size ≤ gb624)); clear HO622; clear HB; have HO622 := n0_; have HB := n1_; have BK624 := n2_; have GW624 := n3_; have GE624 := n4_; clear n0_ n1_ n2_ n3_ n4_; clear hb hbox hg; obtain ⟨Ao13, co13, eo13⟩ := Kd.R_slice HO622.out; subst eo13; have hcz14_0 : w12.cell? ⟨gb624, 0, none⟩ = some (.slice none 0 0) := (blk_cell BK624.out 0).trans rfl; have hcz14_1 : w12.cell? ⟨gb624, 1, none⟩ = some (.int .i64 0) := (blk_cell BK624.out 1).trans rfl; have hfz14_0 := blk_frozen BK624.out 0; have hfz14_1 := blk_frozen BK624.out 1) | (go_at_call 15; (with_reducible refine (dialtoneref34_Attempts.calls k _ _ l2 t625 _ ?side1 ?side2 A7.out).mono ?_); (case side1 => exact Kd.C_below HR2.out (by repeat (first | (with_reducible first | exact HB.out | apply below_alloc | apply pw_below_drewN | apply below_drew1 | refine below_set ?_ GE624.out) | exact HB.out))); (case side2 => exact HC2.out); rintro e w15 ⟨v626, rfl, ho0, hb⟩; have n0_ := Aside0.mk (Kd.R_below (by (with_reducible repeat (first | apply Kd.R_alloc | apply Kd.R_drewN | apply Kd.R_drew)); exact (Kd.R_mono (Kd.R_far (p := ⟨gb624, 1, none⟩) (Kd.R_far (p := ⟨gb624, 0, none⟩) (Kd.R_types HO622.out BK624.out (by decide)) (fun _ hk => hk.2) (.slice Ao13 t620.length co13)) (fun _ hk => hk.2) (.int .i64 t623)) (fun _ h_ => h_.1))) hb); have n1_ := Aside0.mk (Kd.R_lower ho0 (below_size (by repeat (first | (with_reducible first | exact HB.out | apply below_alloc | apply pw_below_drewN | apply below_drew1 | refine below_set ?_ GE624.out) | exact HB.out)))); have n2_ := Aside0.mk (blk_below (g := gb624) (o := .cells #[.slice Ao13 t620.length co13, .int .i64 t623] 26 (0, 0)) (by (with_reducible repeat (first | refine blk_drewN ?_ _ | refine blk_drew ?_ | refine blk_alloc ?_ _)); refine blk_put (cs := #[.slice Ao13 t620.length co13, .int .i64 0]) ?_ 1 _ rfl; (with_reducible repeat (first | refine blk_drewN ?_ _ | refine blk_drew ?_ | refine blk_alloc ?_ _)); refine blk_put (cs := #[.slice none 0 0, .int .i64 0]) ?_ 0 _ rfl; (with_reducible repeat (first | refine blk_drewN ?_ _ | refine blk_drew ?_ | refine blk_alloc ?_ _)); exact BK624.out) hb); have n3_ := Aside0.mk (below_step (by repeat (first | (with_reducible first | exact HB.out | apply below_alloc | apply pw_below_drewN | apply below_drew1 | refine below_set ?_ GE624.out) | exact HB.out)) hb); clear HO622; clear BK624; clear HB; have HO622 := n0_; have HO627 := n1_; have BK624 := n2_; have HB := n3_; clear n0_ n1_ n2_ n3_; (try clear hb); (try clear hb2); (try clear hk); (try clear hi); (try clear ho0); have hcz16_0 : w15.cell? ⟨gb624, 0, none⟩ = some (.slice Ao13 t620.length co13) := (blk_cell BK624.out 0).trans rfl; have hcz16_1 : w15.cell? ⟨gb624, 1, none⟩ = some (.int .i64 t623) := (blk_cell BK624.out 1).trans rfl; have hfz16_0 := blk_frozen BK624.out 0; have hfz16_1 := blk_frozen BK624.out 1; obtain ⟨Ao17, co17, eo17⟩ := Kd.R_slice HO627.out; subst eo17) | (go_at_call 26; (with_reducible refine (recovery_Last.calls k _ _ t620 t623 _ _ t625 t628 t629 _ ?side1 ?side2 ?side3 ?side4 A8.out).mono ?_); (case side1 => repeat (first | exact (Kd.R_reads' HO622.out).2.2 | (with_reducible refine Kd.C_alloc ?_ _) | (with_reducible refine Kd.C_drewN ?_ _) | (with_reducible refine Kd.C_drew ?_))); (case side2 => exact (Kd.R_reads' HO622.out).2.1); (case side3 => repeat (first | exact (Kd.R_reads' HO627.out).2.2 | (with_reducible refine Kd.C_alloc ?_ _) | (with_reducible refine Kd.C_drewN ?_ _) | (with_reducible refine Kd.C_drew ?_))); (case side4 => exact (Kd.R_reads' HO627.out).2.1); rintro e w18 ⟨rfl, hb⟩; have n0_ := Aside0.mk (Kd.R_below (by (with_reducible repeat (first | apply Kd.R_alloc | apply Kd.R_drewN | apply Kd.R_drew)); exact HO622.out) hb); have n1_ := Aside0.mk (Kd.R_below (by (with_reducible repeat (first | apply Kd.R_alloc | apply Kd.R_drewN | apply Kd.R_drew)); exact HO627.out) hb); have n2_ := Aside0.mk (blk_below (g := gb624) (o := .cells #[.slice Ao13 t620.length co13, .int .i64 t623] 26 (0, 0)) (by (with_reducible repeat (first | refine blk_drewN ?_ _ | refine blk_drew ?_ | refine blk_alloc ?_ _)); exact BK624.out) hb); have n3_ := Aside0.mk (below_step (by repeat (first | (with_reducible first | exact HB.out | apply below_alloc | apply pw_below_drewN | apply below_drew1 | refine below_set ?_ GE624.out) | exact HB.out)) hb); clear HO622; clear HO627; clear BK624; clear HB; have HO622 := n0_; have HO627 := n1_; have BK624 := n2_; have HB := n3_; clear n0_ n1_ n2_ n3_; (try clear hb); (try clear hb2); (try clear hk); (try clear hi))); try go_wp2_with (first | (go_at_call 13; (with_reducible refine (dialtonelaw34_sane.calls k  true _ A4.out).mono ?_); rintro e w10 ⟨rfl, hb⟩; have n0_ := Aside0.mk (below_step (by repeat (first | (with_reducible first | exact HB.out | apply below_alloc | apply pw_below_drewN | apply below_drew1) | exact HB.out)) hb); clear HB; have HB := n0_; clear n0_; (try clear hb); (try clear hb2); (try clear hk); (try clear hi)) | (go_at_call 14; (with_reducible refine (dialtoneref34_Made.calls k _ _ l0 a1 t620 t623 _ ?side1 ?side2 A6.out).mono ?_); (case side1 => repeat (first | exact (Kd.C_below HR0.out HB.out) | (with_reducible refine Kd.C_alloc ?_ _) | (with_reducible refine Kd.C_drewN ?_ _) | (with_reducible refine Kd.C_drew ?_))); (case side2 => exact HC0.out); rintro e w11 ⟨v621, rfl, ho0, hb⟩; have n0_ := Aside0.mk (Kd.R_lower ho0 (below_size (by repeat (first | (with_reducible first | exact HB.out | apply below_alloc | apply pw_below_drewN | apply below_drew1) | exact HB.out)))); have n1_ := Aside0.mk (below_step (by repeat (first | (with_reducible first | exact HB.out | apply below_alloc | apply pw_below_drewN | apply below_drew1) | exact HB.out)) hb); clear HB; have HO622 := n0_; have HB := n1_; clear n0_ n1_; (try clear hb); (try clear hb2); (try clear hk); (try clear hi); (try clear ho0)) | ((with_reducible refine gate_dst (N := 8) rfl ?_); refine box_event ?hg (N := 8) ?hd (cs := #[.slice none 0 0, .int .i64 0]) (t := 26) ?hr ?_; (case hd => rfl); (case hg => rfl); (case hr => first | (go_simp; done) | (go_simp; rfl)); intro gb624 hg w12 hbox hb; have n0_ := Aside0.mk (Kd.R_below (by (with_reducible repeat (first | apply Kd.R_alloc | apply Kd.R_drewN | apply Kd.R_drew)); exact HO622.out) hb); have n1_ := Aside0.mk (below_step (by repeat (first | (with_reducible first | exact HB.out | apply below_alloc | apply pw_below_drewN | apply below_drew1) | exact HB.out)) hb); have n2_ := Aside0.mk (hbox); have n3_ := Aside0.mk ((by rw [hg]; exact (below_size (by repeat (first | (with_reducible first | exact HB.out | apply below_alloc | apply pw_below_drewN | apply below_drew1) | exact HB.out))) : w.heap.size ≤ gb624)); have n4_ := Aside0.mk ((by rw [hg]; exact (below_size (by repeat (first | (with_reducible first | exact HB.out | apply below_alloc | apply pw_below_drewN | apply below_drew1) | exact HB.out))) : w.heap.size ≤ gb624)); clear HO622; clear HB; have HO622 := n0_; have HB := n1_; have BK624 := n2_; have GW624 := n3_; have GE624 := n4_; clear n0_ n1_ n2_ n3_ n4_; clear hb hbox hg; obtain ⟨Ao13, co13, eo13⟩ := Kd.R_slice HO622.out; subst eo13; have hcz14_0 : w12.cell? ⟨gb624, 0, none⟩ = some (.slice none 0 0) := (blk_cell BK624.out 0).trans rfl; have hcz14_1 : w12.cell? ⟨gb624, 1, none⟩ = some (.int .i64 0) := (blk_cell BK624.out 1).trans rfl; have hfz14_0 := blk_frozen BK624.out 0; have hfz14_1 := blk_frozen BK624.out 1) | (go_at_call 15; (with_reducible refine (dialtoneref34_Attempts.calls k _ _ l2 t625 _ ?side1 ?side2 A7.out).mono ?_); (case side1 => exact Kd.C_below HR2.out (by repeat (first | (with_reducible first | exact HB.out | apply below_alloc | apply pw_below_drewN | apply below_drew1 | refine below_set ?_ GE624.out) | exact HB.out))); (case side2 => exact HC2.out); rintro e w15 ⟨v626, rfl, ho0, hb⟩; have n0_ := Aside0.mk (Kd.R_below (by (with_reducible repeat (first | apply Kd.R_alloc | apply Kd.R_drewN | apply Kd.R_drew)); exact (Kd.R_mono (Kd.R_far (p := ⟨gb624, 1, none⟩) (Kd.R_far (p := ⟨gb624, 0, none⟩) (Kd.R_types HO622.out BK624.out (by decide)) (fun _ hk => hk.2) (.slice Ao13 t620.length co13)) (fun _ hk => hk.2) (.int .i64 t623)) (fun _ h_ => h_.1))) hb); have n1_ := Aside0.mk (Kd.R_lower ho0 (below_size (by repeat (first | (with_reducible first | exact HB.out | apply below_alloc | apply pw_below_drewN | apply below_drew1 | refine below_set ?_ GE624.out) | exact HB.out)))); have n2_ := Aside0.mk (blk_below (g := gb624) (o := .cells #[.slice Ao13 t620.length co13, .int .i64 t623] 26 (0, 0)) (by (with_reducible repeat (first | refine blk_drewN ?_ _ | refine blk_drew ?_ | refine blk_alloc ?_ _)); refine blk_put (cs := #[.slice Ao13 t620.length co13, .int .i64 0]) ?_ 1 _ rfl; (with_reducible repeat (first | refine blk_drewN ?_ _ | refine blk_drew ?_ | refine blk_alloc ?_ _)); refine blk_put (cs := #[.slice none 0 0, .int .i64 0]) ?_ 0 _ rfl; (with_reducible repeat (first | refine blk_drewN ?_ _ | refine blk_drew ?_ | refine blk_alloc ?_ _)); exact BK624.out) hb); have n3_ := Aside0.mk (below_step (by repeat (first | (with_reducible first | exact HB.out | apply below_alloc | apply pw_below_drewN | apply below_drew1 | refine below_set ?_ GE624.out) | exact HB.out)) hb); clear HO622; clear BK624; clear HB; have HO622 := n0_; have HO627 := n1_; have BK624 := n2_; have HB := n3_; clear n0_ n1_ n2_ n3_; (try clear hb); (try clear hb2); (try clear hk); (try clear hi); (try clear ho0); have hcz16_0 : w15.cell? ⟨gb624, 0, none⟩ = some (.slice Ao13 t620.length co13) := (blk_cell BK624.out 0).trans rfl; have hcz16_1 : w15.cell? ⟨gb624, 1, none⟩ = some (.int .i64 t623) := (blk_cell BK624.out 1).trans rfl; have hfz16_0 := blk_frozen BK624.out 0; have hfz16_1 := blk_frozen BK624.out 1; obtain ⟨Ao17, co17, eo17⟩ := Kd.R_slice HO627.out; subst eo17) | (go_at_call 26; (with_reducible refine (recovery_Last.calls k _ _ t620 t623 _ _ t625 t628 t629 _ ?side1 ?side2 ?side3 ?side4 A8.out).mono ?_); (case side1 => repeat (first | exact (Kd.R_reads' HO622.out).2.2 | (with_reducible refine Kd.C_alloc ?_ _) | (with_reducible refine Kd.C_drewN ?_ _) | (with_reducible refine Kd.C_drew ?_))); (case side2 => exact (Kd.R_reads' HO622.out).2.1); (case side3 => repeat (first | exact (Kd.R_reads' HO627.out).2.2 | (with_reducible refine Kd.C_alloc ?_ _) | (with_reducible refine Kd.C_drewN ?_ _) | (with_reducible refine Kd.C_drew ?_))); (case side4 => exact (Kd.R_reads' HO627.out).2.1); rintro e w18 ⟨rfl, hb⟩; have n0_ := Aside0.mk (Kd.R_below (by (with_reducible repeat (first | apply Kd.R_alloc | apply Kd.R_drewN | apply Kd.R_drew)); exact HO622.out) hb); have n1_ := Aside0.mk (Kd.R_below (by (with_reducible repeat (first | apply Kd.R_alloc | apply Kd.R_drewN | apply Kd.R_drew)); exact HO627.out) hb); have n2_ := Aside0.mk (blk_below (g := gb624) (o := .cells #[.slice Ao13 t620.length co13, .int .i64 t623] 26 (0, 0)) (by (with_reducible repeat (first | refine blk_drewN ?_ _ | refine blk_drew ?_ | refine blk_alloc ?_ _)); exact BK624.out) hb); have n3_ := Aside0.mk (below_step (by repeat (first | (with_reducible first | exact HB.out | apply below_alloc | apply pw_below_drewN | apply below_drew1 | refine below_set ?_ GE624.out) | exact HB.out)) hb); clear HO622; clear HO627; clear BK624; clear HB; have HO622 := n0_; have HO627 := n1_; have BK624 := n2_; have HB := n3_; clear n0_ n1_ n2_ n3_; (try clear hb); (try clear hb2); (try clear hk); (try clear hi))))
   go_loopg [12, 13] k (fun kq v12 v13 w' => ∃ (x12_1 : Int) (x13_1 : Int), v12 = .int .i64 x12_1 ∧ v13 = .int .i64 x13_1 ∧ Aside0 (dialtonelaw34_RecoveryLast.l0 kq t625 t628 x12_1 x13_1 t620 t623 = some r) ∧ Aside0 (kq ≤ k) ∧ Aside0 (Kd.R k60 60 w' w.heap.size (fun _ => True) (.slice Ao17 t625.length co17) t625) ∧ Aside0 (Kd.R k67 67 w' w.heap.size (fun _ => True) (.slice Ao13 t620.length co13) t620) ∧ Aside0 (w'.heap[gb624]? = some (.cells #[(.slice Ao13 t620.length co13), .int .i64 t623] 26 (0, 0))) ∧ Aside0 (Below w.heap.size w w'))
   case atStart => exact ⟨((-1)), (0), (by first | rfl | (simp; done) | (simp [*]; done)), (by first | rfl | (simp; done) | (simp [*]; done)), H', ⟨Nat.le_refl _⟩, ⟨by (with_reducible repeat (first | apply Kd.R_alloc | apply Kd.R_drewN | apply Kd.R_drew)); exact HO627.out⟩, ⟨by (with_reducible repeat (first | apply Kd.R_alloc | apply Kd.R_drewN | apply Kd.R_drew)); exact HO622.out⟩, ⟨by (with_reducible repeat (first | refine blk_drewN ?_ _ | refine blk_drew ?_ | refine blk_alloc ?_ _)); exact BK624.out⟩, ⟨by repeat (first | (with_reducible first | exact HB.out | apply below_alloc | apply pw_below_drewN | apply below_drew1 | refine below_set ?_ GE624.out) | exact HB.out)⟩⟩
   case round =>
    clear H'
    try clear c1
    try clear c2
    try clear p2
    try clear c5
    try clear c9
    try clear c9b0
    try clear c9b1
    try clear c10
    try clear hcz14_0
    try clear hcz14_1
    try clear hcz16_0
    try clear hcz16_1
    try clear hfz14_0
    try clear hfz14_1
    try clear hfz16_0
    try clear hfz16_1
    obtain ⟨x12_1, x13_1, rfl, rfl, HA, HK1, HO_9, HO_625000, BK624, HB⟩ := hrel
    cases gk with
    | zero => exact absurd HA.out (by simp [dialtonelaw34_RecoveryLast.l0])
    | succ k1 =>
     have H := HA.out
     clear HA
     simp only [dialtonelaw34_RecoveryLast.l0] at H
     by_cases c19 : x13_1 < (t625.length : Int)
     ·
      rw [if_pos c19] at H
      have c19b0 : decide (x13_1 < (t625.length : Int)) = true := decide_eq_true c19
      clear c19
      by_cases c20 : 0 ≤ x13_1
      ·
       rw [if_pos c20] at H
       have c20b0 : decide (0 ≤ x13_1) = true := decide_eq_true c20
       clear c20
       obtain ⟨bq21, hbq21⟩ : ∃ b_ : Bool, b_ = ((rd_T60 t625 x13_1).f2) := ⟨_, rfl⟩
       replace H : (if bq21 = true then (dialtonelaw34_RecoveryLast.l0 k1 t625 t628 (mx x12_1 ((rd_T60 t625 x13_1).f1)) (wrap64 (x13_1 + 1)) t620 t623) else (dialtonelaw34_RecoveryLast.l1 k1 t625 t628 x12_1 x13_1 0 0 t620 t623)) = some r := by rw [← hbq21] at H; exact H
       have Nbq21 := Aside0.mk hbq21
       clear hbq21
       by_cases c22 : bq21 = true
       ·
        subst c22
        have H1 : (dialtonelaw34_RecoveryLast.l0 k1 t625 t628 (mx x12_1 ((rd_T60 t625 x13_1).f1)) (wrap64 (x13_1 + 1)) t620 t623) = some r := by rw [if_pos rfl] at H; exact H
        clear H
        have H := H1
        clear H1
        obtain ⟨ji23, hji23⟩ : ∃ j_ : Int, (mx x12_1 ((rd_T60 t625 x13_1).f1)) = j_ := ⟨_, rfl⟩
        replace H : (dialtonelaw34_RecoveryLast.l0 k1 t625 t628 ji23 (wrap64 (x13_1 + 1)) t620 t623) = some r := by first | (rw [hji23] at H; exact H) | (simp only [hji23] at H ⊢; exact H)
        have hji23_ : (if x12_1 < ((rd_T60 t625 x13_1).f1) then ((rd_T60 t625 x13_1).f1) else x12_1) = ji23 := hji23
        have H' := Aside0.mk H
        clear H
        have p630 : 0 ≤ (x13_1 : Int) := of_decide_eq_true (by first | (with_reducible assumption) | assumption)
        have q630 : x13_1 < (t625.length : Int) := of_decide_eq_true (by first | (with_reducible assumption) | assumption)
        obtain ⟨ad630, e630, hx630_0, hx630_1, hx630_2⟩ := at_T60 (Kd.R_reads' HO_9.out).2.2 x13_1 p630 q630
        (try rw [← Nbq21.out] at hx630_2)
        cases e630
        replace p630 := eq_true p630
        replace q630 := eq_true q630
        have p631 : 0 ≤ (x13_1 : Int) := of_decide_eq_true (by first | (with_reducible assumption) | assumption)
        have q631 : x13_1 < (t625.length : Int) := of_decide_eq_true (by first | (with_reducible assumption) | assumption)
        obtain ⟨ad631, e631, hx631_0, hx631_1, hx631_2⟩ := at_T60 (Kd.R_reads' HO_9.out).2.2 x13_1 p631 q631
        (try rw [← Nbq21.out] at hx631_2)
        obtain rfl : ad630 = ad631 := (by injection e631)
        replace p631 := eq_true p631
        replace q631 := eq_true q631
        go_wp2
        repeat (go_quiet (fail); try go_wp2)
        go_roundg k1
        case measure => have := HK1.out; omega
        case rel => exact ⟨(ji23), (wrap64 (x13_1 + 1)), (by first | rfl | (simp; done) | (simp only [← hji23] <;> (first | rfl | simp)) | (simp [*]; done)), (by first | rfl | (simp; done) | (simp [*]; done)), H', ⟨by have := HK1.out; omega⟩, ⟨by (with_reducible repeat (first | apply Kd.R_alloc | apply Kd.R_drewN | apply Kd.R_drew)); exact HO_9.out⟩, ⟨by (with_reducible repeat (first | apply Kd.R_alloc | apply Kd.R_drewN | apply Kd.R_drew)); exact HO_625000.out⟩, ⟨by (with_reducible repeat (first | refine blk_drewN ?_ _ | refine blk_drew ?_ | refine blk_alloc ?_ _)); exact BK624.out⟩, ⟨by repeat (first | (with_reducible first | exact HB.out | apply below_alloc | apply pw_below_drewN | apply below_drew1 | refine below_set ?_ GE624.out) | exact HB.out)⟩⟩
       ·
        replace c22 := Bool.eq_false_iff.mpr c22
        subst c22
        have H1 : (dialtonelaw34_RecoveryLast.l1 k1 t625 t628 x12_1 x13_1 0 0 t620 t623) = some r := by rw [if_neg (show ¬ (false = true) by decide)] at H; exact H
        clear H
        have H := H1
        clear H1
        have H' := Aside0.mk H
        clear H
        have p630 : 0 ≤ (x13_1 : Int) := of_decide_eq_true (by first | (with_reducible assumption) | assumption)
        have q630 : x13_1 < (t625.length : Int) := of_decide_eq_true (by first | (with_reducible assumption) | assumption)
        obtain ⟨ad630, e630, hx630_0, hx630_1, hx630_2⟩ := at_T60 (Kd.R_reads' HO_9.out).2.2 x13_1 p630 q630
        (try rw [← Nbq21.out] at hx630_2)
        cases e630
        replace p630 := eq_true p630
        replace q630 := eq_true q630
        go_wp2
        repeat (go_quiet (fail); try go_wp2)
        go_loopg [14, 15] k1 (fun kq v14 v15 w' => ∃ (x14_2 : Int) (x15_2 : Int), v14 = .int .i64 x14_2 ∧ v15 = .int .i64 x15_2 ∧ Aside0 (dialtonelaw34_RecoveryLast.l1 kq t625 t628 x12_1 x13_1 x14_2 x15_2 t620 t623 = some r) ∧ Aside0 (kq ≤ k1) ∧ Aside0 (Kd.R k60 60 w' w.heap.size (fun _ => True) (.slice (some ad630) t625.length co17) t625) ∧ Aside0 (Kd.R k67 67 w' w.heap.size (fun _ => True) (.slice Ao13 t620.length co13) t620) ∧ Aside0 (w'.heap[gb624]? = some (.cells #[(.slice Ao13 t620.length co13), .int .i64 t623] 26 (0, 0))) ∧ Aside0 (Below w.heap.size w w'))
        case atStart => exact ⟨(0), (0), (by first | rfl | (simp; done) | (simp [*]; done)), (by first | rfl | (simp; done) | (simp [*]; done)), H', ⟨Nat.le_refl _⟩, ⟨by (with_reducible repeat (first | apply Kd.R_alloc | apply Kd.R_drewN | apply Kd.R_drew)); exact HO_9.out⟩, ⟨by (with_reducible repeat (first | apply Kd.R_alloc | apply Kd.R_drewN | apply Kd.R_drew)); exact HO_625000.out⟩, ⟨by (with_reducible repeat (first | refine blk_drewN ?_ _ | refine blk_drew ?_ | refine blk_alloc ?_ _)); exact BK624.out⟩, ⟨by repeat (first | (with_reducible first | exact HB.out | apply below_alloc | apply pw_below_drewN | apply below_drew1 | refine below_set ?_ GE624.out) | exact HB.out)⟩⟩
        case round =>
         clear H'
         try clear c1
         try clear c2
         try clear p2
         try clear q2
         try clear c5
         try clear p6
         try clear q6
         try clear hx6
         try clear c9
         try clear c9b0
         try clear c9b1
         try clear c10
         try clear c19
         try clear c19b0
         try clear c20
         try clear c20b0
         try clear q21
         try clear c22
         try clear hcz14_0
         try clear hcz14_1
         try clear hcz16_0
         try clear hcz16_1
         try clear hfz14_0
         try clear hfz14_1
         try clear hfz16_0
         try clear hfz16_1
         try clear hx630_0
         try clear hx630_1
         try clear hx630_2
         try clear hx631_0
         try clear hx631_1
         try clear hx631_2
         try clear p2
         try clear p630
         try clear p631
         try clear q630
         try clear q631
         obtain ⟨x14_2, x15_2, rfl, rfl, HA, HK2, HO_9, HO_625000, BK624, HB⟩ := hrel
         cases gk with
         | zero => exact absurd HA.out (by simp [dialtonelaw34_RecoveryLast.l1])
         | succ k2 =>
          have H := HA.out
          clear HA
          simp only [dialtonelaw34_RecoveryLast.l1] at H
          by_cases c24 : x15_2 < (t625.length : Int)
          ·
           rw [if_pos c24] at H
           have c24b0 : decide (x15_2 < (t625.length : Int)) = true := decide_eq_true c24
           clear c24
           have HC25 := Aside0.mk H
           clear H
           go_upto_region 19 with (fail)
           repeat (go_quiet (fail); go_upto_region 19 with (fail))
           go_cut [77] (fun v77 wc => ∃ (kq : Nat) (x77_24 : Bool), v77 = .bool x77_24 ∧ Aside0 (dialtonelaw34_RecoveryLast.j2 kq t625 t628 x12_1 x13_1 x14_2 x15_2 x77_24 t620 t623 = some r) ∧ Aside0 (kq ≤ k2) ∧ Aside0 (Kd.R k60 60 wc w.heap.size (fun _ => True) (.slice (some ad630) t625.length co17) t625) ∧ Aside0 (Kd.R k67 67 wc w.heap.size (fun _ => True) (.slice Ao13 t620.length co13) t620) ∧ Aside0 (wc.heap[gb624]? = some (.cells #[(.slice Ao13 t620.length co13), .int .i64 t623] 26 (0, 0))) ∧ Aside0 (Below w.heap.size w wc))
           case first =>
            have H := HC25.out
            clear HC25
            by_cases c26 : 0 ≤ x15_2
            ·
             rw [if_pos c26] at H
             have c26b0 : decide (0 ≤ x15_2) = true := decide_eq_true c26
             clear c26
             (first | rw [c26b0] | (simp only [i64_w, i32_w]; rw [c26b0]) | skip)
             obtain ⟨bq27, hbq27⟩ : ∃ b_ : Bool, b_ = ((rd_T60 t625 x15_2).f2) := ⟨_, rfl⟩
             replace H : (if (bq27 = true) then (dialtonelaw34_RecoveryLast.j2 k2 t625 t628 x12_1 x13_1 x14_2 x15_2 false t620 t623) else (if 0 ≤ x13_1 then (if x13_1 < (t625.length : Int) then (dialtonelaw34_RecoveryLast.j2 k2 t625 t628 x12_1 x13_1 x14_2 x15_2 (decide (((rd_T60 t625 x15_2).f1) ≥ ((rd_T60 t625 x13_1).f1))) t620 t623) else (none)) else (none))) = some r := by rw [← hbq27] at H; exact H
             have Nbq27 := Aside0.mk hbq27
             clear hbq27
             by_cases c28 : (bq27 = true)
             ·
              subst c28
              have H1 : (dialtonelaw34_RecoveryLast.j2 k2 t625 t628 x12_1 x13_1 x14_2 x15_2 false t620 t623) = some r := by rw [if_pos rfl] at H; exact H
              clear H
              have H := H1
              clear H1
              have H' := Aside0.mk H
              clear H
              have p632 : 0 ≤ (x15_2 : Int) := of_decide_eq_true (by first | (with_reducible assumption) | assumption)
              have q632 : x15_2 < (t625.length : Int) := of_decide_eq_true (by first | (with_reducible assumption) | assumption)
              obtain ⟨ad632, e632, hx632_0, hx632_1, hx632_2⟩ := at_T60 (Kd.R_reads' HO_9.out).2.2 x15_2 p632 q632
              (try rw [← Nbq21.out] at hx632_2)
              (try rw [← Nbq27.out] at hx632_2)
              obtain rfl : ad630 = ad632 := (by injection e632)
              replace p632 := eq_true p632
              replace q632 := eq_true q632
              go_wp2
              repeat (go_quiet (fail); try go_wp2)
              go_meet
              case rel => exact ⟨_, (false), (by first | rfl | (simp; done) | (simp [*]; done)), H', ⟨by have := HK1.out; have := HK2.out; first | omega | exact Nat.le_refl _⟩, ⟨by (with_reducible repeat (first | apply Kd.R_alloc | apply Kd.R_drewN | apply Kd.R_drew)); exact HO_9.out⟩, ⟨by (with_reducible repeat (first | apply Kd.R_alloc | apply Kd.R_drewN | apply Kd.R_drew)); exact HO_625000.out⟩, ⟨by (with_reducible repeat (first | refine blk_drewN ?_ _ | refine blk_drew ?_ | refine blk_alloc ?_ _)); exact BK624.out⟩, ⟨by repeat (first | (with_reducible first | exact HB.out | apply below_alloc | apply pw_below_drewN | apply below_drew1 | refine below_set ?_ GE624.out) | exact HB.out)⟩⟩
             ·
              replace c28 := Bool.eq_false_iff.mpr c28
              subst c28
              have H1 : (if 0 ≤ x13_1 then (if x13_1 < (t625.length : Int) then (dialtonelaw34_RecoveryLast.j2 k2 t625 t628 x12_1 x13_1 x14_2 x15_2 (decide (((rd_T60 t625 x15_2).f1) ≥ ((rd_T60 t625 x13_1).f1))) t620 t623) else (none)) else (none)) = some r := by rw [if_neg (show ¬ (false = true) by decide)] at H; exact H
              clear H
              have H := H1
              clear H1
              by_cases c29 : 0 ≤ x13_1
              ·
               rw [if_pos c29] at H
               have c29b0 : decide (0 ≤ x13_1) = true := decide_eq_true c29
               clear c29
               by_cases c30 : x13_1 < (t625.length : Int)
               ·
                rw [if_pos c30] at H
                have c30b0 : decide (x13_1 < (t625.length : Int)) = true := decide_eq_true c30
                clear c30
                have H' := Aside0.mk H
                clear H
                have p632 : 0 ≤ (x15_2 : Int) := of_decide_eq_true (by first | (with_reducible assumption) | assumption)
                have q632 : x15_2 < (t625.length : Int) := of_decide_eq_true (by first | (with_reducible assumption) | assumption)
                obtain ⟨ad632, e632, hx632_0, hx632_1, hx632_2⟩ := at_T60 (Kd.R_reads' HO_9.out).2.2 x15_2 p632 q632
                (try rw [← Nbq21.out] at hx632_2)
                (try rw [← Nbq27.out] at hx632_2)
                obtain rfl : ad630 = ad632 := (by injection e632)
                replace p632 := eq_true p632
                replace q632 := eq_true q632
                have p633 : 0 ≤ (x15_2 : Int) := of_decide_eq_true (by first | (with_reducible assumption) | assumption)
                have q633 : x15_2 < (t625.length : Int) := of_decide_eq_true (by first | (with_reducible assumption) | assumption)
                obtain ⟨ad633, e633, hx633_0, hx633_1, hx633_2⟩ := at_T60 (Kd.R_reads' HO_9.out).2.2 x15_2 p633 q633
                (try rw [← Nbq21.out] at hx633_2)
                (try rw [← Nbq27.out] at hx633_2)
                obtain rfl : ad630 = ad633 := (by injection e633)
                replace p633 := eq_true p633
                replace q633 := eq_true q633
                have p634 : 0 ≤ (x13_1 : Int) := of_decide_eq_true (by first | (with_reducible assumption) | assumption)
                have q634 : x13_1 < (t625.length : Int) := of_decide_eq_true (by first | (with_reducible assumption) | assumption)
                obtain ⟨ad634, e634, hx634_0, hx634_1, hx634_2⟩ := at_T60 (Kd.R_reads' HO_9.out).2.2 x13_1 p634 q634
                (try rw [← Nbq21.out] at hx634_2)
                (try rw [← Nbq27.out] at hx634_2)
                obtain rfl : ad630 = ad634 := (by injection e634)
                replace p634 := eq_true p634
                replace q634 := eq_true q634
                go_wp2
                repeat (go_quiet (fail); try go_wp2)
                go_meet
                case rel => exact ⟨_, (decide (((rd_T60 t625 x15_2).f1) ≥ ((rd_T60 t625 x13_1).f1))), (by first | rfl | (simp; done) | (simp [*]; done)), H', ⟨by have := HK1.out; have := HK2.out; first | omega | exact Nat.le_refl _⟩, ⟨by (with_reducible repeat (first | apply Kd.R_alloc | apply Kd.R_drewN | apply Kd.R_drew)); exact HO_9.out⟩, ⟨by (with_reducible repeat (first | apply Kd.R_alloc | apply Kd.R_drewN | apply Kd.R_drew)); exact HO_625000.out⟩, ⟨by (with_reducible repeat (first | refine blk_drewN ?_ _ | refine blk_drew ?_ | refine blk_alloc ?_ _)); exact BK624.out⟩, ⟨by repeat (first | (with_reducible first | exact HB.out | apply below_alloc | apply pw_below_drewN | apply below_drew1 | refine below_set ?_ GE624.out) | exact HB.out)⟩⟩
               ·
                rw [if_neg c30] at H
                exact absurd H (by simp)
              ·
               rw [if_neg c29] at H
               exact absurd H (by simp)
            ·
             rw [if_neg c26] at H
             exact absurd H (by simp)
           case rest =>
            clear HC25
            try clear c1
            try clear c2
            try clear p2
            try clear q2
            try clear c3
            try clear c5
            try clear p6
            try clear q6
            try clear hx6
            try clear c9
            try clear c9b0
            try clear c9b1
            try clear c10
            try clear c19
            try clear c19b0
            try clear c20
            try clear c20b0
            try clear q21
            try clear c22
            try clear c24
            try clear c24b0
            try clear c26
            try clear c26b0
            try clear q27
            try clear c28
            try clear c29
            try clear c29b0
            try clear c30
            try clear c30b0
            try clear hcz14_0
            try clear hcz14_1
            try clear hcz16_0
            try clear hcz16_1
            try clear hfz14_0
            try clear hfz14_1
            try clear hfz16_0
            try clear hfz16_1
            try clear hx630_0
            try clear hx630_1
            try clear hx630_2
            try clear hx631_0
            try clear hx631_1
            try clear hx631_2
            try clear hx632_0
            try clear hx632_1
            try clear hx632_2
            try clear hx633_0
            try clear hx633_1
            try clear hx633_2
            try clear hx634_0
            try clear hx634_1
            try clear hx634_2
            try clear p2
            try clear p6
            try clear p630
            try clear p631
            try clear p632
            try clear p633
            try clear p634
            try clear q2
            try clear q21
            try clear q6
            try clear q630
            try clear q631
            try clear q632
            try clear q633
            try clear q634
            obtain ⟨kq, x77_24, rfl, HA, HJ24, HO_9, HO_625000, BK624, HB⟩ := hcut
            cases kq with
            | zero => exact absurd HA.out (by simp [dialtonelaw34_RecoveryLast.j2])
            | succ kj24 =>
             have H := HA.out
             clear HA
             simp only [dialtonelaw34_RecoveryLast.j2] at H
             by_cases c31 : x77_24 = true
             ·
              subst c31
              have H1 : (dialtonelaw34_RecoveryLast.l1 kj24 t625 t628 x12_1 x13_1 (wrap64 (x14_2 + 1)) (wrap64 (x15_2 + 1)) t620 t623) = some r := by rw [if_pos rfl] at H; exact H
              clear H
              have H := H1
              clear H1
              have H' := Aside0.mk H
              clear H
              go_wp2
              repeat (go_quiet (fail); try go_wp2)
              go_roundg kj24
              case measure => have := HK1.out; have := HK2.out; have := HJ24.out; omega
              case rel => exact ⟨(wrap64 (x14_2 + 1)), (wrap64 (x15_2 + 1)), (by first | rfl | (simp; done) | (simp [*]; done)), (by first | rfl | (simp; done) | (simp [*]; done)), H', ⟨by have := HK1.out; have := HK2.out; have := HJ24.out; omega⟩, ⟨by (with_reducible repeat (first | apply Kd.R_alloc | apply Kd.R_drewN | apply Kd.R_drew)); exact HO_9.out⟩, ⟨by (with_reducible repeat (first | apply Kd.R_alloc | apply Kd.R_drewN | apply Kd.R_drew)); exact HO_625000.out⟩, ⟨by (with_reducible repeat (first | refine blk_drewN ?_ _ | refine blk_drew ?_ | refine blk_alloc ?_ _)); exact BK624.out⟩, ⟨by repeat (first | (with_reducible first | exact HB.out | apply below_alloc | apply pw_below_drewN | apply below_drew1 | refine below_set ?_ GE624.out) | exact HB.out)⟩⟩
             ·
              replace c31 := Bool.eq_false_iff.mpr c31
              subst c31
              have H1 : (dialtonelaw34_RecoveryLast.l1 kj24 t625 t628 x12_1 x13_1 x14_2 (wrap64 (x15_2 + 1)) t620 t623) = some r := by rw [if_neg (show ¬ (false = true) by decide)] at H; exact H
              clear H
              have H := H1
              clear H1
              have H' := Aside0.mk H
              clear H
              go_wp2
              repeat (go_quiet (fail); try go_wp2)
              go_roundg kj24
              case measure => have := HK1.out; have := HK2.out; have := HJ24.out; omega
              case rel => exact ⟨(x14_2), (wrap64 (x15_2 + 1)), (by first | rfl | (simp; done) | (simp [*]; done)), (by first | rfl | (simp; done) | (simp [*]; done)), H', ⟨by have := HK1.out; have := HK2.out; have := HJ24.out; omega⟩, ⟨by (with_reducible repeat (first | apply Kd.R_alloc | apply Kd.R_drewN | apply Kd.R_drew)); exact HO_9.out⟩, ⟨by (with_reducible repeat (first | apply Kd.R_alloc | apply Kd.R_drewN | apply Kd.R_drew)); exact HO_625000.out⟩, ⟨by (with_reducible repeat (first | refine blk_drewN ?_ _ | refine blk_drew ?_ | refine blk_alloc ?_ _)); exact BK624.out⟩, ⟨by repeat (first | (with_reducible first | exact HB.out | apply below_alloc | apply pw_below_drewN | apply below_drew1 | refine below_set ?_ GE624.out) | exact HB.out)⟩⟩
          ·
           rw [if_neg c24] at H
           have c24b0 : decide (x15_2 < (t625.length : Int)) = false := decide_eq_false c24
           clear c24
           by_cases c32 : 0 ≤ x13_1
           ·
            rw [if_pos c32] at H
            have c32b0 : decide (0 ≤ x13_1) = true := decide_eq_true c32
            clear c32
            by_cases c33 : x13_1 < (t625.length : Int)
            ·
             rw [if_pos c33] at H
             have c33b0 : decide (x13_1 < (t625.length : Int)) = true := decide_eq_true c33
             clear c33
             have H' := Aside0.mk H
             clear H
             have p635 : 0 ≤ (x13_1 : Int) := of_decide_eq_true (by first | (with_reducible assumption) | assumption)
             have q635 : x13_1 < (t625.length : Int) := of_decide_eq_true (by first | (with_reducible assumption) | assumption)
             obtain ⟨ad635, e635, hx635_0, hx635_1, hx635_2⟩ := at_T60 (Kd.R_reads' HO_9.out).2.2 x13_1 p635 q635
             (try rw [← Nbq21.out] at hx635_2)
             obtain rfl : ad630 = ad635 := (by injection e635)
             replace p635 := eq_true p635
             replace q635 := eq_true q635
             go_wp2
             repeat (go_quiet (fail); try go_wp2)
             go_loopg [14, 16] k2 (fun kq v14 v16 w' => ∃ (x14_3 : Int) (x16_3 : Int), v14 = .int .i64 x14_3 ∧ v16 = .int .i64 x16_3 ∧ Aside0 (dialtonelaw34_RecoveryLast.l2 kq t625 t628 x12_1 x13_1 x14_3 x16_3 t620 t623 = some r) ∧ Aside0 (kq ≤ k2) ∧ Aside0 (Kd.R k60 60 w' w.heap.size (fun _ => True) (.slice (some ad630) t625.length co17) t625) ∧ Aside0 (Kd.R k67 67 w' w.heap.size (fun _ => True) (.slice Ao13 t620.length co13) t620) ∧ Aside0 (w'.heap[gb624]? = some (.cells #[(.slice Ao13 t620.length co13), .int .i64 t623] 26 (0, 0))) ∧ Aside0 (Below w.heap.size w w'))
             case atStart => exact ⟨(x14_2), (wrap64 (((rd_T60 t625 x13_1).f1) - 1)), (by first | rfl | (simp; done) | (simp [*]; done)), (by first | rfl | (simp; done) | (simp [*]; done)), H', ⟨Nat.le_refl _⟩, ⟨by (with_reducible repeat (first | apply Kd.R_alloc | apply Kd.R_drewN | apply Kd.R_drew)); exact HO_9.out⟩, ⟨by (with_reducible repeat (first | apply Kd.R_alloc | apply Kd.R_drewN | apply Kd.R_drew)); exact HO_625000.out⟩, ⟨by (with_reducible repeat (first | refine blk_drewN ?_ _ | refine blk_drew ?_ | refine blk_alloc ?_ _)); exact BK624.out⟩, ⟨by repeat (first | (with_reducible first | exact HB.out | apply below_alloc | apply pw_below_drewN | apply below_drew1 | refine below_set ?_ GE624.out) | exact HB.out)⟩⟩
             case round =>
              clear H'
              try clear c1
              try clear c2
              try clear p2
              try clear q2
              try clear c3
              try clear c5
              try clear p6
              try clear q6
              try clear hx6
              try clear c9
              try clear c9b0
              try clear c9b1
              try clear c10
              try clear c19
              try clear c19b0
              try clear c20
              try clear c20b0
              try clear q21
              try clear c22
              try clear c24
              try clear c24b0
              try clear c26
              try clear c26b0
              try clear q27
              try clear c28
              try clear c29
              try clear c29b0
              try clear c30
              try clear c30b0
              try clear c31
              try clear c32
              try clear c32b0
              try clear c33
              try clear c33b0
              try clear hcz14_0
              try clear hcz14_1
              try clear hcz16_0
              try clear hcz16_1
              try clear hfz14_0
              try clear hfz14_1
              try clear hfz16_0
              try clear hfz16_1
              try clear hx630_0
              try clear hx630_1
              try clear hx630_2
              try clear hx631_0
              try clear hx631_1
              try clear hx631_2
              try clear hx632_0
              try clear hx632_1
              try clear hx632_2
              try clear hx633_0
              try clear hx633_1
              try clear hx633_2
              try clear hx634_0
              try clear hx634_1
              try clear hx634_2
              try clear hx635_0
              try clear hx635_1
              try clear hx635_2
              try clear p2
              try clear p6
              try clear p630
              try clear p631
              try clear p632
              try clear p633
              try clear p634
              try clear p635
              try clear q2
              try clear q21
              try clear q27
              try clear q6
              try clear q630
              try clear q631
              try clear q632
              try clear q633
              try clear q634
              try clear q635
              obtain ⟨x14_3, x16_3, rfl, rfl, HA, HK3, HO_9, HO_625000, BK624, HB⟩ := hrel
              cases gk with
              | zero => exact absurd HA.out (by simp [dialtonelaw34_RecoveryLast.l2])
              | succ k3 =>
               have H := HA.out
               clear HA
               simp only [dialtonelaw34_RecoveryLast.l2] at H
               have HC34 := Aside0.mk H
               clear H
               go_upto_region 22 with (fail)
               repeat (go_quiet (fail); go_upto_region 22 with (fail))
               go_cut [91] (fun v91 wc => ∃ (kq : Nat) (x91_33 : Bool), v91 = .bool x91_33 ∧ Aside0 (dialtonelaw34_RecoveryLast.j4 kq t625 t628 x12_1 x13_1 x14_3 x16_3 x91_33 t620 t623 = some r) ∧ Aside0 (kq ≤ k3) ∧ Aside0 (Kd.R k60 60 wc w.heap.size (fun _ => True) (.slice (some ad630) t625.length co17) t625) ∧ Aside0 (Kd.R k67 67 wc w.heap.size (fun _ => True) (.slice Ao13 t620.length co13) t620) ∧ Aside0 (wc.heap[gb624]? = some (.cells #[(.slice Ao13 t620.length co13), .int .i64 t623] 26 (0, 0))) ∧ Aside0 (Below w.heap.size w wc))
               case first =>
                have H := HC34.out
                clear HC34
                by_cases c35 : x14_3 > 0
                ·
                 rw [if_pos c35] at H
                 have c35b0 : decide (0 < x14_3) = true := decide_eq_true c35
                 clear c35
                 (first | rw [c35b0] | (simp only [i64_w, i32_w]; rw [c35b0]) | skip)
                 have H' := Aside0.mk H
                 clear H
                 go_wp2
                 repeat (go_quiet (fail); try go_wp2)
                 go_meet
                 case rel => exact ⟨_, (decide (x16_3 < 1000)), (by first | rfl | (simp; done) | (simp [*]; done)), H', ⟨by have := HK1.out; have := HK2.out; have := HK3.out; first | omega | exact Nat.le_refl _⟩, ⟨by (with_reducible repeat (first | apply Kd.R_alloc | apply Kd.R_drewN | apply Kd.R_drew)); exact HO_9.out⟩, ⟨by (with_reducible repeat (first | apply Kd.R_alloc | apply Kd.R_drewN | apply Kd.R_drew)); exact HO_625000.out⟩, ⟨by (with_reducible repeat (first | refine blk_drewN ?_ _ | refine blk_drew ?_ | refine blk_alloc ?_ _)); exact BK624.out⟩, ⟨by repeat (first | (with_reducible first | exact HB.out | apply below_alloc | apply pw_below_drewN | apply below_drew1 | refine below_set ?_ GE624.out) | exact HB.out)⟩⟩
                ·
                 rw [if_neg c35] at H
                 have c35b0 : decide (0 < x14_3) = false := decide_eq_false c35
                 clear c35
                 (first | rw [c35b0] | (simp only [i64_w, i32_w]; rw [c35b0]) | skip)
                 have H' := Aside0.mk H
                 clear H
                 go_wp2
                 repeat (go_quiet (fail); try go_wp2)
                 go_meet
                 case rel => exact ⟨_, (false), (by first | rfl | (simp; done) | (simp [*]; done)), H', ⟨by have := HK1.out; have := HK2.out; have := HK3.out; first | omega | exact Nat.le_refl _⟩, ⟨by (with_reducible repeat (first | apply Kd.R_alloc | apply Kd.R_drewN | apply Kd.R_drew)); exact HO_9.out⟩, ⟨by (with_reducible repeat (first | apply Kd.R_alloc | apply Kd.R_drewN | apply Kd.R_drew)); exact HO_625000.out⟩, ⟨by (with_reducible repeat (first | refine blk_drewN ?_ _ | refine blk_drew ?_ | refine blk_alloc ?_ _)); exact BK624.out⟩, ⟨by repeat (first | (with_reducible first | exact HB.out | apply below_alloc | apply pw_below_drewN | apply below_drew1 | refine below_set ?_ GE624.out) | exact HB.out)⟩⟩
               case rest =>
                clear HC34
                try clear c1
                try clear c2
                try clear p2
                try clear q2
                try clear c3
                try clear c5
                try clear p6
                try clear q6
                try clear hx6
                try clear c9
                try clear c9b0
                try clear c9b1
                try clear c10
                try clear c19
                try clear c19b0
                try clear c20
                try clear c20b0
                try clear q21
                try clear c22
                try clear c24
                try clear c24b0
                try clear c26
                try clear c26b0
                try clear q27
                try clear c28
                try clear c29
                try clear c29b0
                try clear c30
                try clear c30b0
                try clear c31
                try clear c32
                try clear c32b0
                try clear c33
                try clear c33b0
                try clear c35
                try clear c35b0
                try clear hcz14_0
                try clear hcz14_1
                try clear hcz16_0
                try clear hcz16_1
                try clear hfz14_0
                try clear hfz14_1
                try clear hfz16_0
                try clear hfz16_1
                try clear hx630_0
                try clear hx630_1
                try clear hx630_2
                try clear hx631_0
                try clear hx631_1
                try clear hx631_2
                try clear hx632_0
                try clear hx632_1
                try clear hx632_2
                try clear hx633_0
                try clear hx633_1
                try clear hx633_2
                try clear hx634_0
                try clear hx634_1
                try clear hx634_2
                try clear hx635_0
                try clear hx635_1
                try clear hx635_2
                try clear p2
                try clear p6
                try clear p630
                try clear p631
                try clear p632
                try clear p633
                try clear p634
                try clear p635
                try clear q2
                try clear q21
                try clear q27
                try clear q6
                try clear q630
                try clear q631
                try clear q632
                try clear q633
                try clear q634
                try clear q635
                obtain ⟨kq, x91_33, rfl, HA, HJ33, HO_9, HO_625000, BK624, HB⟩ := hcut
                cases kq with
                | zero => exact absurd HA.out (by simp [dialtonelaw34_RecoveryLast.j4])
                | succ kj33 =>
                 have H := HA.out
                 clear HA
                 simp only [dialtonelaw34_RecoveryLast.j4] at H
                 by_cases c36 : x91_33 = true
                 ·
                  subst c36
                  have H1 : ((recovery_Capacity.f kj33 t620 t623 (wrap64 (x16_3 + 1))).bind fun bt636 => (if bt636.2 = 0 then (dialtonelaw34_RecoveryLast.l2 kj33 t625 t628 x12_1 x13_1 (wrap64 (x14_3 - bt636.1)) (wrap64 (x16_3 + 1)) t620 t623) else (none))) = some r := by rw [if_pos rfl] at H; exact H
                  clear H
                  have H := H1
                  clear H1
                  replace H := Option.bind_eq_some_iff.mp H
                  obtain ⟨⟨t636, t637⟩, A370, H⟩ := H
                  replace H : (if t637 = 0 then (dialtonelaw34_RecoveryLast.l2 kj33 t625 t628 x12_1 x13_1 (wrap64 (x14_3 - t636)) (wrap64 (x16_3 + 1)) t620 t623) else (none)) = some r := H
                  have A37 := Aside0.mk A370
                  clear A370
                  by_cases c38 : t637 = 0
                  ·
                   rw [if_pos c38] at H
                   have c38b0 : (t637 == 0) = true := beq_iff_eq.mpr c38
                   have c38b1 : (t637 != 0) = false := bne_eq_false_iff_eq.mpr c38
                   clear c38
                   have H' := Aside0.mk H
                   clear H
                   have hcz39_0 : wc.cell? ⟨gb624, 0, none⟩ = some (.slice Ao13 t620.length co13) := (blk_cell BK624.out 0).trans rfl
                   have hcz39_1 : wc.cell? ⟨gb624, 1, none⟩ = some (.int .i64 t623) := (blk_cell BK624.out 1).trans rfl
                   have hfz39_0 := blk_frozen BK624.out 0
                   have hfz39_1 := blk_frozen BK624.out 1
                   go_wp2_with (first | (go_at_call 34; (with_reducible refine (recovery_Capacity.calls kj33 _ _ t620 t623 (wrap64 (x16_3 + 1)) t636 t637 _ ?side1 ?side2 A37.out).mono ?_); (case side1 => repeat (first | exact (Kd.R_reads' HO_625000.out).2.2 | (with_reducible refine Kd.C_alloc ?_ _) | (with_reducible refine Kd.C_drewN ?_ _) | (with_reducible refine Kd.C_drew ?_))); (case side2 => exact (Kd.R_reads' HO_625000.out).2.1); rintro e w40 ⟨rfl, hb⟩; have n0_ := Aside0.mk (Kd.R_below (by (with_reducible repeat (first | apply Kd.R_alloc | apply Kd.R_drewN | apply Kd.R_drew)); exact HO_9.out) hb); have n1_ := Aside0.mk (Kd.R_below (by (with_reducible repeat (first | apply Kd.R_alloc | apply Kd.R_drewN | apply Kd.R_drew)); exact HO_625000.out) hb); have n2_ := Aside0.mk (blk_below (g := gb624) (o := .cells #[.slice Ao13 t620.length co13, .int .i64 t623] 26 (0, 0)) (by (with_reducible repeat (first | refine blk_drewN ?_ _ | refine blk_drew ?_ | refine blk_alloc ?_ _)); exact BK624.out) hb); have n3_ := Aside0.mk (below_step (by repeat (first | (with_reducible first | exact HB.out | apply below_alloc | apply pw_below_drewN | apply below_drew1 | refine below_set ?_ GE624.out) | exact HB.out)) hb); clear HO_9; clear HO_625000; clear BK624; clear HB; have HO_9 := n0_; have HO_625000 := n1_; have BK624 := n2_; have HB := n3_; clear n0_ n1_ n2_ n3_; (try clear hb); (try clear hb2); (try clear hk); (try clear hi)))
                   repeat (go_quiet (first | (go_at_call 34; (with_reducible refine (recovery_Capacity.calls kj33 _ _ t620 t623 (wrap64 (x16_3 + 1)) t636 t637 _ ?side1 ?side2 A37.out).mono ?_); (case side1 => repeat (first | exact (Kd.R_reads' HO_625000.out).2.2 | (with_reducible refine Kd.C_alloc ?_ _) | (with_reducible refine Kd.C_drewN ?_ _) | (with_reducible refine Kd.C_drew ?_))); (case side2 => exact (Kd.R_reads' HO_625000.out).2.1); rintro e w40 ⟨rfl, hb⟩; have n0_ := Aside0.mk (Kd.R_below (by (with_reducible repeat (first | apply Kd.R_alloc | apply Kd.R_drewN | apply Kd.R_drew)); exact HO_9.out) hb); have n1_ := Aside0.mk (Kd.R_below (by (with_reducible repeat (first | apply Kd.R_alloc | apply Kd.R_drewN | apply Kd.R_drew)); exact HO_625000.out) hb); have n2_ := Aside0.mk (blk_below (g := gb624) (o := .cells #[.slice Ao13 t620.length co13, .int .i64 t623] 26 (0, 0)) (by (with_reducible repeat (first | refine blk_drewN ?_ _ | refine blk_drew ?_ | refine blk_alloc ?_ _)); exact BK624.out) hb); have n3_ := Aside0.mk (below_step (by repeat (first | (with_reducible first | exact HB.out | apply below_alloc | apply pw_below_drewN | apply below_drew1 | refine below_set ?_ GE624.out) | exact HB.out)) hb); clear HO_9; clear HO_625000; clear BK624; clear HB; have HO_9 := n0_; have HO_625000 := n1_; have BK624 := n2_; have HB := n3_; clear n0_ n1_ n2_ n3_; (try clear hb); (try clear hb2); (try clear hk); (try clear hi))); try go_wp2_with (first | (go_at_call 34; (with_reducible refine (recovery_Capacity.calls kj33 _ _ t620 t623 (wrap64 (x16_3 + 1)) t636 t637 _ ?side1 ?side2 A37.out).mono ?_); (case side1 => repeat (first | exact (Kd.R_reads' HO_625000.out).2.2 | (with_reducible refine Kd.C_alloc ?_ _) | (with_reducible refine Kd.C_drewN ?_ _) | (with_reducible refine Kd.C_drew ?_))); (case side2 => exact (Kd.R_reads' HO_625000.out).2.1); rintro e w40 ⟨rfl, hb⟩; have n0_ := Aside0.mk (Kd.R_below (by (with_reducible repeat (first | apply Kd.R_alloc | apply Kd.R_drewN | apply Kd.R_drew)); exact HO_9.out) hb); have n1_ := Aside0.mk (Kd.R_below (by (with_reducible repeat (first | apply Kd.R_alloc | apply Kd.R_drewN | apply Kd.R_drew)); exact HO_625000.out) hb); have n2_ := Aside0.mk (blk_below (g := gb624) (o := .cells #[.slice Ao13 t620.length co13, .int .i64 t623] 26 (0, 0)) (by (with_reducible repeat (first | refine blk_drewN ?_ _ | refine blk_drew ?_ | refine blk_alloc ?_ _)); exact BK624.out) hb); have n3_ := Aside0.mk (below_step (by repeat (first | (with_reducible first | exact HB.out | apply below_alloc | apply pw_below_drewN | apply below_drew1 | refine below_set ?_ GE624.out) | exact HB.out)) hb); clear HO_9; clear HO_625000; clear BK624; clear HB; have HO_9 := n0_; have HO_625000 := n1_; have BK624 := n2_; have HB := n3_; clear n0_ n1_ n2_ n3_; (try clear hb); (try clear hb2); (try clear hk); (try clear hi))))
                   go_roundg kj33
                   case measure => have := HK1.out; have := HK2.out; have := HK3.out; have := HJ33.out; omega
                   case rel => exact ⟨(wrap64 (x14_3 - t636)), (wrap64 (x16_3 + 1)), (by first | rfl | (simp; done) | (simp [*]; done)), (by first | rfl | (simp; done) | (simp [*]; done)), H', ⟨by have := HK1.out; have := HK2.out; have := HK3.out; have := HJ33.out; omega⟩, ⟨by (with_reducible repeat (first | apply Kd.R_alloc | apply Kd.R_drewN | apply Kd.R_drew)); exact HO_9.out⟩, ⟨by (with_reducible repeat (first | apply Kd.R_alloc | apply Kd.R_drewN | apply Kd.R_drew)); exact HO_625000.out⟩, ⟨by (with_reducible repeat (first | refine blk_drewN ?_ _ | refine blk_drew ?_ | refine blk_alloc ?_ _)); exact BK624.out⟩, ⟨by repeat (first | (with_reducible first | exact HB.out | apply below_alloc | apply pw_below_drewN | apply below_drew1 | refine below_set ?_ GE624.out) | exact HB.out)⟩⟩
                  ·
                   rw [if_neg c38] at H
                   exact absurd H (by simp)
                 ·
                  replace c36 := Bool.eq_false_iff.mpr c36
                  subst c36
                  have H1 : (dialtonelaw34_RecoveryLast.l0 kj33 t625 t628 (mx x12_1 x16_3) (wrap64 (x13_1 + 1)) t620 t623) = some r := by rw [if_neg (show ¬ (false = true) by decide)] at H; exact H
                  clear H
                  have H := H1
                  clear H1
                  obtain ⟨ji41, hji41⟩ : ∃ j_ : Int, (mx x12_1 x16_3) = j_ := ⟨_, rfl⟩
                  replace H : (dialtonelaw34_RecoveryLast.l0 kj33 t625 t628 ji41 (wrap64 (x13_1 + 1)) t620 t623) = some r := by first | (rw [hji41] at H; exact H) | (simp only [hji41] at H ⊢; exact H)
                  have hji41_ : (if x12_1 < x16_3 then x16_3 else x12_1) = ji41 := hji41
                  have H' := Aside0.mk H
                  clear H
                  go_wp2
                  repeat (go_quiet (fail); try go_wp2)
                  go_roundg kj33
                  case measure => have := HK1.out; have := HK2.out; have := HK3.out; have := HJ33.out; omega
                  case rel => exact ⟨(ji41), (wrap64 (x13_1 + 1)), (by first | rfl | (simp; done) | (simp only [← hji41] <;> (first | rfl | simp)) | (simp [*]; done)), (by first | rfl | (simp; done) | (simp [*]; done)), H', ⟨by have := HK1.out; have := HK2.out; have := HK3.out; have := HJ33.out; omega⟩, ⟨by (with_reducible repeat (first | apply Kd.R_alloc | apply Kd.R_drewN | apply Kd.R_drew)); exact HO_9.out⟩, ⟨by (with_reducible repeat (first | apply Kd.R_alloc | apply Kd.R_drewN | apply Kd.R_drew)); exact HO_625000.out⟩, ⟨by (with_reducible repeat (first | refine blk_drewN ?_ _ | refine blk_drew ?_ | refine blk_alloc ?_ _)); exact BK624.out⟩, ⟨by repeat (first | (with_reducible first | exact HB.out | apply below_alloc | apply pw_below_drewN | apply below_drew1 | refine below_set ?_ GE624.out) | exact HB.out)⟩⟩
            ·
             rw [if_neg c33] at H
             exact absurd H (by simp)
           ·
            rw [if_neg c32] at H
            exact absurd H (by simp)
      ·
       rw [if_neg c20] at H
       exact absurd H (by simp)
     ·
      rw [if_neg c19] at H
      have c19b0 : decide (x13_1 < (t625.length : Int)) = false := decide_eq_false c19
      clear c19
      obtain rfl := Option.some.inj H
      go_wp2
      repeat (go_quiet (fail); try go_wp2)
      go_ret
      exact ⟨by first | rfl | (simp [errW_none, errW_some] <;> rfl) | (simp [*, errW_none, errW_some] <;> rfl), by repeat (first | (with_reducible first | exact HB.out | apply below_alloc | apply pw_below_drewN | apply below_drew1 | refine below_set ?_ GE624.out) | exact HB.out)⟩
  ·
   rw [if_neg c9] at H
   exact absurd H (by simp)
 ·
  replace c5 := Bool.eq_false_iff.mpr c5
  subst c5
  have H1 : (none) = some r := by rw [if_neg (show ¬ (false = true) by decide)] at H; exact H
  clear H
  have H := H1
  clear H1
  exact absurd H (by simp)

end Go.Proofs.Ytcldldmedphcfaa.C
