-- Written for this claim by a program of this session (wip/tools/hprint.py) out of the translation. Lean checks it.
import Derived.Test.YtcldldmedphcfaaBWords
import Derived.Test.YtcldldmedphcfaaCKinds
import Derived.Test.YtcldldmedphcfaaCSane
import Derived.Test.YtcldldmedphcfaaCMade
import Derived.Test.YtcldldmedphcfaaCAttempts
import Derived.Test.YtcldldmedphcfaaCOrdered
import Derived.Test.YtcldldmedphcfaaHPlan
namespace Go.Proofs.Ytcldldmedphcfaa.C
open Go.RowKit Go.Proofs.YtcldldmedphcfaaW.PrintWords Go.Proofs.YtcldldmedphcfaaW.PrintLast Go.Proofs.YtcldldmedphcfaaW.PrintMore
attribute [local go_sem] max2_int min2_int max_two min_two max_three min_three max_four min_four   -- for this text's walks alone
set_option linter.unusedVariables false
set_option linter.unusedSimpArgs false

/-! ### dialtonelaw34_RecoveryFair: function 8 -/
mutual
def dialtonelaw34_RecoveryFair.j0 : Nat → Bool → List (S39) → List (S60) → Bool → Option (Bool)
 | 0, _, _, _, _ => none
 | k + 1, x7, x9, x11, x37 => if x37 = true then (none) else (dialtonelaw34_RecoveryFair.l0 k x7 x9 x11 (-1) 0)
def dialtonelaw34_RecoveryFair.l0 : Nat → Bool → List (S39) → List (S60) → Int → Int → Option (Bool)
 | 0, _, _, _, _, _ => none
 | k + 1, x7, x9, x11, x12, x13 => if x13 < (x11.length : Int) then (if 0 ≤ x13 then (if x13 < (x9.length : Int) then (if ((rd_T39 x9 x13).f0) = ((rd_T60 x11 x13).f0) then (dialtonelaw34_RecoveryFair.j2 k x7 x9 x11 x12 x13 (((rd_T39 x9 x13).f1) != ((rd_T60 x11 x13).f1))) else (dialtonelaw34_RecoveryFair.j2 k x7 x9 x11 x12 x13 true)) else (none)) else (none)) else (some x7)
def dialtonelaw34_RecoveryFair.j2 : Nat → Bool → List (S39) → List (S60) → Int → Int → Bool → Option (Bool)
 | 0, _, _, _, _, _, _ => none
 | k + 1, x7, x9, x11, x12, x13, x67 => if x67 = true then (none) else (if 0 ≤ x13 then (if x13 < (x11.length : Int) then (if ((rd_T60 x11 x13).f2 = true) then (dialtonelaw34_RecoveryFair.l0 k x7 x9 x11 x12 (wrap64 (x13 + 1))) else (if x13 < (x9.length : Int) then (if ((rd_T39 x9 x13).f2) < x12 then (none) else (dialtonelaw34_RecoveryFair.l0 k x7 x9 x11 ((rd_T39 x9 x13).f2) (wrap64 (x13 + 1)))) else (none))) else (none)) else (none))
end
def dialtonelaw34_RecoveryFair.f (k : Nat) (l0 : List (S71)) (a1 : Int) (l2 : List (S71)) : Option (Bool) := (dialtonelaw34_sane.f k).bind fun t599 => (if t599 = true then ((dialtoneref34_Attempts.f k l2).bind fun t600 => ((dialtoneref34_Made.f k l0 a1).bind fun bt603 => ((recovery_Plan.f bt603.1 bt603.2 t600).bind fun bt607 => ((dialtoneref34_Ordered.f k t600).bind fun t611 => (if bt607.2 = 0 then (dialtonelaw34_RecoveryFair.j0 k t599 bt607.1 t611 ((bt607.1.length : Int) != (t611.length : Int))) else (dialtonelaw34_RecoveryFair.j0 k t599 bt607.1 t611 true)))))) else (none))
theorem dialtonelaw34_RecoveryFair.mono_l : ∀ k, (∀ y0 y1 y2 y3, LeO (dialtonelaw34_RecoveryFair.j0 k y0 y1 y2 y3) (dialtonelaw34_RecoveryFair.j0 (k + 1) y0 y1 y2 y3)) ∧ (∀ y0 y1 y2 y3 y4, LeO (dialtonelaw34_RecoveryFair.l0 k y0 y1 y2 y3 y4) (dialtonelaw34_RecoveryFair.l0 (k + 1) y0 y1 y2 y3 y4)) ∧ (∀ y0 y1 y2 y3 y4 y5, LeO (dialtonelaw34_RecoveryFair.j2 k y0 y1 y2 y3 y4 y5) (dialtonelaw34_RecoveryFair.j2 (k + 1) y0 y1 y2 y3 y4 y5))
 | 0 => ⟨fun _ _ _ _ r h => by simp [dialtonelaw34_RecoveryFair.j0] at h, fun _ _ _ _ _ r h => by simp [dialtonelaw34_RecoveryFair.l0] at h, fun _ _ _ _ _ _ r h => by simp [dialtonelaw34_RecoveryFair.j2] at h⟩
 | k + 1 => by
  obtain ⟨ih0, ih1, ih2⟩ := dialtonelaw34_RecoveryFair.mono_l k
  refine ⟨?_, ?_, ?_⟩
  ·
   intro y0 y1 y2 y3
   unfold dialtonelaw34_RecoveryFair.j0
   repeat' first
   | (with_reducible exact ih0 _ _ _ _)
   | (with_reducible exact ih1 _ _ _ _ _)
   | (with_reducible exact ih2 _ _ _ _ _ _)
   | (with_reducible exact dialtonelaw34_sane.mono _)
   | (with_reducible exact dialtoneref34_Attempts.mono _ _)
   | (with_reducible exact dialtoneref34_Made.mono _ _ _)
   | (with_reducible exact dialtoneref34_Ordered.mono _ _)
   | (with_reducible exact LeO.refl _)
   | (with_reducible exact LeO.none _)
   | (with_reducible refine LeO.ite ?_ ?_)
   | (with_reducible refine LeO.bind ?_ (fun _ => ?_))
   | exact ih0 _ _ _ _
   | exact ih1 _ _ _ _ _
   | exact ih2 _ _ _ _ _ _
   | exact dialtonelaw34_sane.mono _
   | exact dialtoneref34_Attempts.mono _ _
   | exact dialtoneref34_Made.mono _ _ _
   | exact dialtoneref34_Ordered.mono _ _
   | exact LeO.none _
   | refine LeO.ite ?_ ?_
   | refine LeO.bind ?_ (fun _ => ?_)
  ·
   intro y0 y1 y2 y3 y4
   unfold dialtonelaw34_RecoveryFair.l0
   repeat' first
   | (with_reducible exact ih0 _ _ _ _)
   | (with_reducible exact ih1 _ _ _ _ _)
   | (with_reducible exact ih2 _ _ _ _ _ _)
   | (with_reducible exact dialtonelaw34_sane.mono _)
   | (with_reducible exact dialtoneref34_Attempts.mono _ _)
   | (with_reducible exact dialtoneref34_Made.mono _ _ _)
   | (with_reducible exact dialtoneref34_Ordered.mono _ _)
   | (with_reducible exact LeO.refl _)
   | (with_reducible exact LeO.none _)
   | (with_reducible refine LeO.ite ?_ ?_)
   | (with_reducible refine LeO.bind ?_ (fun _ => ?_))
   | exact ih0 _ _ _ _
   | exact ih1 _ _ _ _ _
   | exact ih2 _ _ _ _ _ _
   | exact dialtonelaw34_sane.mono _
   | exact dialtoneref34_Attempts.mono _ _
   | exact dialtoneref34_Made.mono _ _ _
   | exact dialtoneref34_Ordered.mono _ _
   | exact LeO.none _
   | refine LeO.ite ?_ ?_
   | refine LeO.bind ?_ (fun _ => ?_)
  ·
   intro y0 y1 y2 y3 y4 y5
   unfold dialtonelaw34_RecoveryFair.j2
   repeat' first
   | (with_reducible exact ih0 _ _ _ _)
   | (with_reducible exact ih1 _ _ _ _ _)
   | (with_reducible exact ih2 _ _ _ _ _ _)
   | (with_reducible exact dialtonelaw34_sane.mono _)
   | (with_reducible exact dialtoneref34_Attempts.mono _ _)
   | (with_reducible exact dialtoneref34_Made.mono _ _ _)
   | (with_reducible exact dialtoneref34_Ordered.mono _ _)
   | (with_reducible exact LeO.refl _)
   | (with_reducible exact LeO.none _)
   | (with_reducible refine LeO.ite ?_ ?_)
   | (with_reducible refine LeO.bind ?_ (fun _ => ?_))
   | exact ih0 _ _ _ _
   | exact ih1 _ _ _ _ _
   | exact ih2 _ _ _ _ _ _
   | exact dialtonelaw34_sane.mono _
   | exact dialtoneref34_Attempts.mono _ _
   | exact dialtoneref34_Made.mono _ _ _
   | exact dialtoneref34_Ordered.mono _ _
   | exact LeO.none _
   | refine LeO.ite ?_ ?_
   | refine LeO.bind ?_ (fun _ => ?_)
theorem dialtonelaw34_RecoveryFair.mono : ∀ a0 a1 a2 k, LeO (dialtonelaw34_RecoveryFair.f k a0 a1 a2) (dialtonelaw34_RecoveryFair.f (k + 1) a0 a1 a2) := by
 intro a0 a1 a2 k
 obtain ⟨ih0, ih1, ih2⟩ := dialtonelaw34_RecoveryFair.mono_l k
 unfold dialtonelaw34_RecoveryFair.f
 repeat' first
   | (with_reducible exact ih0 _ _ _ _)
   | (with_reducible exact ih1 _ _ _ _ _)
   | (with_reducible exact ih2 _ _ _ _ _ _)
   | (with_reducible exact dialtonelaw34_sane.mono _)
   | (with_reducible exact dialtoneref34_Attempts.mono _ _)
   | (with_reducible exact dialtoneref34_Made.mono _ _ _)
   | (with_reducible exact dialtoneref34_Ordered.mono _ _)
   | (with_reducible exact LeO.refl _)
   | (with_reducible exact LeO.none _)
   | (with_reducible refine LeO.ite ?_ ?_)
   | (with_reducible refine LeO.bind ?_ (fun _ => ?_))
   | exact ih0 _ _ _ _
   | exact ih1 _ _ _ _ _
   | exact ih2 _ _ _ _ _ _
   | exact dialtonelaw34_sane.mono _
   | exact dialtoneref34_Attempts.mono _ _
   | exact dialtoneref34_Made.mono _ _ _
   | exact dialtoneref34_Ordered.mono _ _
   | exact LeO.none _
   | refine LeO.ite ?_ ?_
   | refine LeO.bind ?_ (fun _ => ?_)
set_option maxHeartbeats 8000000 in
set_option maxRecDepth 100000 in
theorem dialtonelaw34_RecoveryFair.calls (k : Nat) (A0 : Option Addr) (c0 : Nat) (l0 : List (S71)) (a1 : Int) (A2 : Option Addr) (c2 : Nat) (l2 : List (S71)) (r : Bool) (w : World) (hr0 : Kd.C k71 w A0 l0.length l0) (hc0 : l0.length ≤ c0) (hr2 : Kd.C k71 w A2 l2.length l2) (hc2 : l2.length ≤ c2) (h : dialtonelaw34_RecoveryFair.f k l0 a1 l2 = some r) :
  Calls Try.prog 8 #[.slice A0 l0.length c0, .int .i64 a1, .slice A2 l2.length c2] w fun e w' => e = .returned (.bool r) ∧ Below w.heap.size w w' := by
 have HR0 := Aside0.mk hr0
 have HC0 := Aside0.mk hc0
 clear hr0 hc0
 have HR2 := Aside0.mk hr2
 have HC2 := Aside0.mk hc2
 clear hr2 hc2
 have HB := Aside0.mk (Below.refl w.heap.size w)
 have H : ((dialtonelaw34_sane.f k).bind fun t599 => (if t599 = true then ((dialtoneref34_Attempts.f k l2).bind fun t600 => ((dialtoneref34_Made.f k l0 a1).bind fun bt603 => ((recovery_Plan.f bt603.1 bt603.2 t600).bind fun bt607 => ((dialtoneref34_Ordered.f k t600).bind fun t611 => (if bt607.2 = 0 then (dialtonelaw34_RecoveryFair.j0 k t599 bt607.1 t611 ((bt607.1.length : Int) != (t611.length : Int))) else (dialtonelaw34_RecoveryFair.j0 k t599 bt607.1 t611 true)))))) else (none))) = some r := h
 clear h
 replace H := Option.bind_eq_some_iff.mp H
 obtain ⟨t599, A40, H⟩ := H
 replace H : (if t599 = true then ((dialtoneref34_Attempts.f k l2).bind fun t600 => ((dialtoneref34_Made.f k l0 a1).bind fun bt603 => ((recovery_Plan.f bt603.1 bt603.2 t600).bind fun bt607 => ((dialtoneref34_Ordered.f k t600).bind fun t611 => (if bt607.2 = 0 then (dialtonelaw34_RecoveryFair.j0 k t599 bt607.1 t611 ((bt607.1.length : Int) != (t611.length : Int))) else (dialtonelaw34_RecoveryFair.j0 k t599 bt607.1 t611 true)))))) else (none)) = some r := H
 have A4 := Aside0.mk A40
 clear A40
 by_cases c5 : t599 = true
 ·
  subst c5
  have H1 : ((dialtoneref34_Attempts.f k l2).bind fun t600 => ((dialtoneref34_Made.f k l0 a1).bind fun bt603 => ((recovery_Plan.f bt603.1 bt603.2 t600).bind fun bt607 => ((dialtoneref34_Ordered.f k t600).bind fun t611 => (if bt607.2 = 0 then (dialtonelaw34_RecoveryFair.j0 k true bt607.1 t611 ((bt607.1.length : Int) != (t611.length : Int))) else (dialtonelaw34_RecoveryFair.j0 k true bt607.1 t611 true)))))) = some r := by rw [if_pos rfl] at H; exact H
  clear H
  have H := H1
  clear H1
  replace H := Option.bind_eq_some_iff.mp H
  obtain ⟨t600, A60, H⟩ := H
  replace H : ((dialtoneref34_Made.f k l0 a1).bind fun bt603 => ((recovery_Plan.f bt603.1 bt603.2 t600).bind fun bt607 => ((dialtoneref34_Ordered.f k t600).bind fun t611 => (if bt607.2 = 0 then (dialtonelaw34_RecoveryFair.j0 k true bt607.1 t611 ((bt607.1.length : Int) != (t611.length : Int))) else (dialtonelaw34_RecoveryFair.j0 k true bt607.1 t611 true))))) = some r := H
  have A6 := Aside0.mk A60
  clear A60
  replace H := Option.bind_eq_some_iff.mp H
  obtain ⟨⟨t603, t606⟩, A70, H⟩ := H
  replace H : ((recovery_Plan.f t603 t606 t600).bind fun bt607 => ((dialtoneref34_Ordered.f k t600).bind fun t611 => (if bt607.2 = 0 then (dialtonelaw34_RecoveryFair.j0 k true bt607.1 t611 ((bt607.1.length : Int) != (t611.length : Int))) else (dialtonelaw34_RecoveryFair.j0 k true bt607.1 t611 true)))) = some r := H
  have A7 := Aside0.mk A70
  clear A70
  replace H := Option.bind_eq_some_iff.mp H
  obtain ⟨⟨t607, t610⟩, A80, H⟩ := H
  replace H : ((dialtoneref34_Ordered.f k t600).bind fun t611 => (if t610 = 0 then (dialtonelaw34_RecoveryFair.j0 k true t607 t611 ((t607.length : Int) != (t611.length : Int))) else (dialtonelaw34_RecoveryFair.j0 k true t607 t611 true))) = some r := H
  have A8 := Aside0.mk A80
  clear A80
  replace H := Option.bind_eq_some_iff.mp H
  obtain ⟨t611, A90, H⟩ := H
  replace H : (if t610 = 0 then (dialtonelaw34_RecoveryFair.j0 k true t607 t611 ((t607.length : Int) != (t611.length : Int))) else (dialtonelaw34_RecoveryFair.j0 k true t607 t611 true)) = some r := H
  have A9 := Aside0.mk A90
  clear A90
  have HC10 := Aside0.mk H
  clear H
  go_enter Try.func8, Try.ntmps8
  go_upto_region 7 with (first | (go_at_call 13; (with_reducible refine (dialtonelaw34_sane.calls k  true _ A4.out).mono ?_); rintro e w11 ⟨rfl, hb⟩; have n0_ := Aside0.mk (below_step (by repeat (first | (with_reducible first | exact HB.out | apply below_alloc | apply pw_below_drewN | apply below_drew1) | exact HB.out)) hb); clear HB; have HB := n0_; clear n0_; (try clear hb); (try clear hb2); (try clear hk); (try clear hi)) | (go_at_call 15; (with_reducible refine (dialtoneref34_Attempts.calls k _ _ l2 t600 _ ?side1 ?side2 A6.out).mono ?_); (case side1 => repeat (first | exact (Kd.C_below HR2.out HB.out) | (with_reducible refine Kd.C_alloc ?_ _) | (with_reducible refine Kd.C_drewN ?_ _) | (with_reducible refine Kd.C_drew ?_))); (case side2 => exact HC2.out); rintro e w12 ⟨v601, rfl, ho0, hb⟩; have n0_ := Aside0.mk (Kd.R_lower ho0 (below_size (by repeat (first | (with_reducible first | exact HB.out | apply below_alloc | apply pw_below_drewN | apply below_drew1) | exact HB.out)))); have n1_ := Aside0.mk (below_step (by repeat (first | (with_reducible first | exact HB.out | apply below_alloc | apply pw_below_drewN | apply below_drew1) | exact HB.out)) hb); clear HB; have HO602 := n0_; have HB := n1_; clear n0_ n1_; (try clear hb); (try clear hb2); (try clear hk); (try clear hi); (try clear ho0)) | (go_at_call 14; (with_reducible refine (dialtoneref34_Made.calls k _ _ l0 a1 t603 t606 _ ?side1 ?side2 A7.out).mono ?_); (case side1 => repeat (first | exact (Kd.C_below HR0.out HB.out) | (with_reducible refine Kd.C_alloc ?_ _) | (with_reducible refine Kd.C_drewN ?_ _) | (with_reducible refine Kd.C_drew ?_))); (case side2 => exact HC0.out); rintro e w13 ⟨v604, rfl, ho0, hb⟩; have n0_ := Aside0.mk (Kd.R_below (by (with_reducible repeat (first | apply Kd.R_alloc | apply Kd.R_drewN | apply Kd.R_drew)); exact HO602.out) hb); have n1_ := Aside0.mk (Kd.R_lower ho0 (below_size (by repeat (first | (with_reducible first | exact HB.out | apply below_alloc | apply pw_below_drewN | apply below_drew1) | exact HB.out)))); have n2_ := Aside0.mk (below_step (by repeat (first | (with_reducible first | exact HB.out | apply below_alloc | apply pw_below_drewN | apply below_drew1) | exact HB.out)) hb); clear HO602; clear HB; have HO602 := n0_; have HO605 := n1_; have HB := n2_; clear n0_ n1_ n2_; (try clear hb); (try clear hb2); (try clear hk); (try clear hi); (try clear ho0); obtain ⟨Ao14, co14, eo14⟩ := Kd.R_slice HO605.out; subst eo14; obtain ⟨Ao15, co15, eo15⟩ := Kd.R_slice HO602.out; subst eo15) | (go_at_call 16; (with_reducible refine (recovery_Plan.calls _ _ t603 t606 _ _ t600 t607 t610 _ ?side1 ?side2 ?side3 ?side4 A8.out).mono ?_); (case side1 => repeat (first | exact (Kd.R_reads' HO605.out).2.2 | (with_reducible refine Kd.C_alloc ?_ _) | (with_reducible refine Kd.C_drewN ?_ _) | (with_reducible refine Kd.C_drew ?_))); (case side2 => exact (Kd.R_reads' HO605.out).2.1); (case side3 => repeat (first | exact (Kd.R_reads' HO602.out).2.2 | (with_reducible refine Kd.C_alloc ?_ _) | (with_reducible refine Kd.C_drewN ?_ _) | (with_reducible refine Kd.C_drew ?_))); (case side4 => exact (Kd.R_reads' HO602.out).2.1); rintro e w16 ⟨v608, rfl, ho0, hb⟩; have n0_ := Aside0.mk (Kd.R_below (by (with_reducible repeat (first | apply Kd.R_alloc | apply Kd.R_drewN | apply Kd.R_drew)); exact HO602.out) hb); have n1_ := Aside0.mk (Kd.R_below (by (with_reducible repeat (first | apply Kd.R_alloc | apply Kd.R_drewN | apply Kd.R_drew)); exact HO605.out) hb); have n2_ := Aside0.mk (Kd.R_lower ho0 (below_size (by repeat (first | (with_reducible first | exact HB.out | apply below_alloc | apply pw_below_drewN | apply below_drew1) | exact HB.out)))); have n3_ := Aside0.mk (below_step (by repeat (first | (with_reducible first | exact HB.out | apply below_alloc | apply pw_below_drewN | apply below_drew1) | exact HB.out)) hb); clear HO602; clear HO605; clear HB; have HO602 := n0_; have HO605 := n1_; have HO609 := n2_; have HB := n3_; clear n0_ n1_ n2_ n3_; (try clear hb); (try clear hb2); (try clear hk); (try clear hi); (try clear ho0)) | (go_at_call 38; (with_reducible refine (dialtoneref34_Ordered.calls k _ _ t600 t611 _ ?side1 ?side2 A9.out).mono ?_); (case side1 => repeat (first | exact (Kd.R_reads' HO602.out).2.2 | (with_reducible refine Kd.C_alloc ?_ _) | (with_reducible refine Kd.C_drewN ?_ _) | (with_reducible refine Kd.C_drew ?_))); (case side2 => exact (Kd.R_reads' HO602.out).2.1); rintro e w17 ⟨v612, rfl, ho0, hb⟩; have n0_ := Aside0.mk (Kd.R_elder' (by (with_reducible repeat (first | apply Kd.R_alloc | apply Kd.R_drewN | apply Kd.R_drew)); exact HO602.out) (Kd.R_base ho0) hb); have n1_ := Aside0.mk (Kd.R_below (by (with_reducible repeat (first | apply Kd.R_alloc | apply Kd.R_drewN | apply Kd.R_drew)); exact HO605.out) hb); have n2_ := Aside0.mk (Kd.R_below (by (with_reducible repeat (first | apply Kd.R_alloc | apply Kd.R_drewN | apply Kd.R_drew)); exact HO609.out) hb); have n3_ := Aside0.mk (Kd.R_lower (Kd.R_new' ho0 (Kd.R_lt (by (with_reducible repeat (first | apply Kd.R_alloc | apply Kd.R_drewN | apply Kd.R_drew)); exact HO602.out))) (below_size (by repeat (first | (with_reducible first | exact HB.out | apply below_alloc | apply pw_below_drewN | apply below_drew1) | exact HB.out)))); have n4_ := Aside0.mk (below_step (by repeat (first | (with_reducible first | exact HB.out | apply below_alloc | apply pw_below_drewN | apply below_drew1) | exact HB.out)) hb); clear HO602; clear HO605; clear HO609; clear HB; have HO602 := n0_; have HO605 := n1_; have HO609 := n2_; have HO613 := n3_; have HB := n4_; clear n0_ n1_ n2_ n3_ n4_; (try clear hb); (try clear hb2); (try clear hk); (try clear hi); (try clear ho0)))
  repeat (go_quiet (first | (go_at_call 13; (with_reducible refine (dialtonelaw34_sane.calls k  true _ A4.out).mono ?_); rintro e w11 ⟨rfl, hb⟩; have n0_ := Aside0.mk (below_step (by repeat (first | (with_reducible first | exact HB.out | apply below_alloc | apply pw_below_drewN | apply below_drew1) | exact HB.out)) hb); clear HB; have HB := n0_; clear n0_; (try clear hb); (try clear hb2); (try clear hk); (try clear hi)) | (go_at_call 15; (with_reducible refine (dialtoneref34_Attempts.calls k _ _ l2 t600 _ ?side1 ?side2 A6.out).mono ?_); (case side1 => repeat (first | exact (Kd.C_below HR2.out HB.out) | (with_reducible refine Kd.C_alloc ?_ _) | (with_reducible refine Kd.C_drewN ?_ _) | (with_reducible refine Kd.C_drew ?_))); (case side2 => exact HC2.out); rintro e w12 ⟨v601, rfl, ho0, hb⟩; have n0_ := Aside0.mk (Kd.R_lower ho0 (below_size (by repeat (first | (with_reducible first | exact HB.out | apply below_alloc | apply pw_below_drewN | apply below_drew1) | exact HB.out)))); have n1_ := Aside0.mk (below_step (by repeat (first | (with_reducible first | exact HB.out | apply below_alloc | apply pw_below_drewN | apply below_drew1) | exact HB.out)) hb); clear HB; have HO602 := n0_; have HB := n1_; clear n0_ n1_; (try clear hb); (try clear hb2); (try clear hk); (try clear hi); (try clear ho0)) | (go_at_call 14; (with_reducible refine (dialtoneref34_Made.calls k _ _ l0 a1 t603 t606 _ ?side1 ?side2 A7.out).mono ?_); (case side1 => repeat (first | exact (Kd.C_below HR0.out HB.out) | (with_reducible refine Kd.C_alloc ?_ _) | (with_reducible refine Kd.C_drewN ?_ _) | (with_reducible refine Kd.C_drew ?_))); (case side2 => exact HC0.out); rintro e w13 ⟨v604, rfl, ho0, hb⟩; have n0_ := Aside0.mk (Kd.R_below (by (with_reducible repeat (first | apply Kd.R_alloc | apply Kd.R_drewN | apply Kd.R_drew)); exact HO602.out) hb); have n1_ := Aside0.mk (Kd.R_lower ho0 (below_size (by repeat (first | (with_reducible first | exact HB.out | apply below_alloc | apply pw_below_drewN | apply below_drew1) | exact HB.out)))); have n2_ := Aside0.mk (below_step (by repeat (first | (with_reducible first | exact HB.out | apply below_alloc | apply pw_below_drewN | apply below_drew1) | exact HB.out)) hb); clear HO602; clear HB; have HO602 := n0_; have HO605 := n1_; have HB := n2_; clear n0_ n1_ n2_; (try clear hb); (try clear hb2); (try clear hk); (try clear hi); (try clear ho0); obtain ⟨Ao14, co14, eo14⟩ := Kd.R_slice HO605.out; subst eo14; obtain ⟨Ao15, co15, eo15⟩ := Kd.R_slice HO602.out; subst eo15) | (go_at_call 16; (with_reducible refine (recovery_Plan.calls _ _ t603 t606 _ _ t600 t607 t610 _ ?side1 ?side2 ?side3 ?side4 A8.out).mono ?_); (case side1 => repeat (first | exact (Kd.R_reads' HO605.out).2.2 | (with_reducible refine Kd.C_alloc ?_ _) | (with_reducible refine Kd.C_drewN ?_ _) | (with_reducible refine Kd.C_drew ?_))); (case side2 => exact (Kd.R_reads' HO605.out).2.1); (case side3 => repeat (first | exact (Kd.R_reads' HO602.out).2.2 | (with_reducible refine Kd.C_alloc ?_ _) | (with_reducible refine Kd.C_drewN ?_ _) | (with_reducible refine Kd.C_drew ?_))); (case side4 => exact (Kd.R_reads' HO602.out).2.1); rintro e w16 ⟨v608, rfl, ho0, hb⟩; have n0_ := Aside0.mk (Kd.R_below (by (with_reducible repeat (first | apply Kd.R_alloc | apply Kd.R_drewN | apply Kd.R_drew)); exact HO602.out) hb); have n1_ := Aside0.mk (Kd.R_below (by (with_reducible repeat (first | apply Kd.R_alloc | apply Kd.R_drewN | apply Kd.R_drew)); exact HO605.out) hb); have n2_ := Aside0.mk (Kd.R_lower ho0 (below_size (by repeat (first | (with_reducible first | exact HB.out | apply below_alloc | apply pw_below_drewN | apply below_drew1) | exact HB.out)))); have n3_ := Aside0.mk (below_step (by repeat (first | (with_reducible first | exact HB.out | apply below_alloc | apply pw_below_drewN | apply below_drew1) | exact HB.out)) hb); clear HO602; clear HO605; clear HB; have HO602 := n0_; have HO605 := n1_; have HO609 := n2_; have HB := n3_; clear n0_ n1_ n2_ n3_; (try clear hb); (try clear hb2); (try clear hk); (try clear hi); (try clear ho0)) | (go_at_call 38; (with_reducible refine (dialtoneref34_Ordered.calls k _ _ t600 t611 _ ?side1 ?side2 A9.out).mono ?_); (case side1 => repeat (first | exact (Kd.R_reads' HO602.out).2.2 | (with_reducible refine Kd.C_alloc ?_ _) | (with_reducible refine Kd.C_drewN ?_ _) | (with_reducible refine Kd.C_drew ?_))); (case side2 => exact (Kd.R_reads' HO602.out).2.1); rintro e w17 ⟨v612, rfl, ho0, hb⟩; have n0_ := Aside0.mk (Kd.R_elder' (by (with_reducible repeat (first | apply Kd.R_alloc | apply Kd.R_drewN | apply Kd.R_drew)); exact HO602.out) (Kd.R_base ho0) hb); have n1_ := Aside0.mk (Kd.R_below (by (with_reducible repeat (first | apply Kd.R_alloc | apply Kd.R_drewN | apply Kd.R_drew)); exact HO605.out) hb); have n2_ := Aside0.mk (Kd.R_below (by (with_reducible repeat (first | apply Kd.R_alloc | apply Kd.R_drewN | apply Kd.R_drew)); exact HO609.out) hb); have n3_ := Aside0.mk (Kd.R_lower (Kd.R_new' ho0 (Kd.R_lt (by (with_reducible repeat (first | apply Kd.R_alloc | apply Kd.R_drewN | apply Kd.R_drew)); exact HO602.out))) (below_size (by repeat (first | (with_reducible first | exact HB.out | apply below_alloc | apply pw_below_drewN | apply below_drew1) | exact HB.out)))); have n4_ := Aside0.mk (below_step (by repeat (first | (with_reducible first | exact HB.out | apply below_alloc | apply pw_below_drewN | apply below_drew1) | exact HB.out)) hb); clear HO602; clear HO605; clear HO609; clear HB; have HO602 := n0_; have HO605 := n1_; have HO609 := n2_; have HO613 := n3_; have HB := n4_; clear n0_ n1_ n2_ n3_ n4_; (try clear hb); (try clear hb2); (try clear hk); (try clear hi); (try clear ho0))); go_upto_region 7 with (first | (go_at_call 13; (with_reducible refine (dialtonelaw34_sane.calls k  true _ A4.out).mono ?_); rintro e w11 ⟨rfl, hb⟩; have n0_ := Aside0.mk (below_step (by repeat (first | (with_reducible first | exact HB.out | apply below_alloc | apply pw_below_drewN | apply below_drew1) | exact HB.out)) hb); clear HB; have HB := n0_; clear n0_; (try clear hb); (try clear hb2); (try clear hk); (try clear hi)) | (go_at_call 15; (with_reducible refine (dialtoneref34_Attempts.calls k _ _ l2 t600 _ ?side1 ?side2 A6.out).mono ?_); (case side1 => repeat (first | exact (Kd.C_below HR2.out HB.out) | (with_reducible refine Kd.C_alloc ?_ _) | (with_reducible refine Kd.C_drewN ?_ _) | (with_reducible refine Kd.C_drew ?_))); (case side2 => exact HC2.out); rintro e w12 ⟨v601, rfl, ho0, hb⟩; have n0_ := Aside0.mk (Kd.R_lower ho0 (below_size (by repeat (first | (with_reducible first | exact HB.out | apply below_alloc | apply pw_below_drewN | apply below_drew1) | exact HB.out)))); have n1_ := Aside0.mk (below_step (by repeat (first | (with_reducible first | exact HB.out | apply below_alloc | apply pw_below_drewN | apply below_drew1) | exact HB.out)) hb); clear HB; have HO602 := n0_; have HB := n1_; clear n0_ n1_; (try clear hb); (try clear hb2); (try clear hk); (try clear hi); (try clear ho0)) | (go_at_call 14; (with_reducible refine (dialtoneref34_Made.calls k _ _ l0 a1 t603 t606 _ ?side1 ?side2 A7.out).mono ?_); (case side1 => repeat (first | exact (Kd.C_below HR0.out HB.out) | (with_reducible refine Kd.C_alloc ?_ _) | (with_reducible refine Kd.C_drewN ?_ _) | (with_reducible refine Kd.C_drew ?_))); (case side2 => exact HC0.out); rintro e w13 ⟨v604, rfl, ho0, hb⟩; have n0_ := Aside0.mk (Kd.R_below (by (with_reducible repeat (first | apply Kd.R_alloc | apply Kd.R_drewN | apply Kd.R_drew)); exact HO602.out) hb); have n1_ := Aside0.mk (Kd.R_lower ho0 (below_size (by repeat (first | (with_reducible first | exact HB.out | apply below_alloc | apply pw_below_drewN | apply below_drew1) | exact HB.out)))); have n2_ := Aside0.mk (below_step (by repeat (first | (with_reducible first | exact HB.out | apply below_alloc | apply pw_below_drewN | apply below_drew1) | exact HB.out)) hb); clear HO602; clear HB; have HO602 := n0_; have HO605 := n1_; have HB := n2_; clear n0_ n1_ n2_; (try clear hb); (try clear hb2); (try clear hk); (try clear hi); (try clear ho0); obtain ⟨Ao14, co14, eo14⟩ := Kd.R_slice HO605.out; subst eo14; obtain ⟨Ao15, co15, eo15⟩ := Kd.R_slice HO602.out; subst eo15) | (go_at_call 16; (with_reducible refine (recovery_Plan.calls _ _ t603 t606 _ _ t600 t607 t610 _ ?side1 ?side2 ?side3 ?side4 A8.out).mono ?_); (case side1 => repeat (first | exact (Kd.R_reads' HO605.out).2.2 | (with_reducible refine Kd.C_alloc ?_ _) | (with_reducible refine Kd.C_drewN ?_ _) | (with_reducible refine Kd.C_drew ?_))); (case side2 => exact (Kd.R_reads' HO605.out).2.1); (case side3 => repeat (first | exact (Kd.R_reads' HO602.out).2.2 | (with_reducible refine Kd.C_alloc ?_ _) | (with_reducible refine Kd.C_drewN ?_ _) | (with_reducible refine Kd.C_drew ?_))); (case side4 => exact (Kd.R_reads' HO602.out).2.1); rintro e w16 ⟨v608, rfl, ho0, hb⟩; have n0_ := Aside0.mk (Kd.R_below (by (with_reducible repeat (first | apply Kd.R_alloc | apply Kd.R_drewN | apply Kd.R_drew)); exact HO602.out) hb); have n1_ := Aside0.mk (Kd.R_below (by (with_reducible repeat (first | apply Kd.R_alloc | apply Kd.R_drewN | apply Kd.R_drew)); exact HO605.out) hb); have n2_ := Aside0.mk (Kd.R_lower ho0 (below_size (by repeat (first | (with_reducible first | exact HB.out | apply below_alloc | apply pw_below_drewN | apply below_drew1) | exact HB.out)))); have n3_ := Aside0.mk (below_step (by repeat (first | (with_reducible first | exact HB.out | apply below_alloc | apply pw_below_drewN | apply below_drew1) | exact HB.out)) hb); clear HO602; clear HO605; clear HB; have HO602 := n0_; have HO605 := n1_; have HO609 := n2_; have HB := n3_; clear n0_ n1_ n2_ n3_; (try clear hb); (try clear hb2); (try clear hk); (try clear hi); (try clear ho0)) | (go_at_call 38; (with_reducible refine (dialtoneref34_Ordered.calls k _ _ t600 t611 _ ?side1 ?side2 A9.out).mono ?_); (case side1 => repeat (first | exact (Kd.R_reads' HO602.out).2.2 | (with_reducible refine Kd.C_alloc ?_ _) | (with_reducible refine Kd.C_drewN ?_ _) | (with_reducible refine Kd.C_drew ?_))); (case side2 => exact (Kd.R_reads' HO602.out).2.1); rintro e w17 ⟨v612, rfl, ho0, hb⟩; have n0_ := Aside0.mk (Kd.R_elder' (by (with_reducible repeat (first | apply Kd.R_alloc | apply Kd.R_drewN | apply Kd.R_drew)); exact HO602.out) (Kd.R_base ho0) hb); have n1_ := Aside0.mk (Kd.R_below (by (with_reducible repeat (first | apply Kd.R_alloc | apply Kd.R_drewN | apply Kd.R_drew)); exact HO605.out) hb); have n2_ := Aside0.mk (Kd.R_below (by (with_reducible repeat (first | apply Kd.R_alloc | apply Kd.R_drewN | apply Kd.R_drew)); exact HO609.out) hb); have n3_ := Aside0.mk (Kd.R_lower (Kd.R_new' ho0 (Kd.R_lt (by (with_reducible repeat (first | apply Kd.R_alloc | apply Kd.R_drewN | apply Kd.R_drew)); exact HO602.out))) (below_size (by repeat (first | (with_reducible first | exact HB.out | apply below_alloc | apply pw_below_drewN | apply below_drew1) | exact HB.out)))); have n4_ := Aside0.mk (below_step (by repeat (first | (with_reducible first | exact HB.out | apply below_alloc | apply pw_below_drewN | apply below_drew1) | exact HB.out)) hb); clear HO602; clear HO605; clear HO609; clear HB; have HO602 := n0_; have HO605 := n1_; have HO609 := n2_; have HO613 := n3_; have HB := n4_; clear n0_ n1_ n2_ n3_ n4_; (try clear hb); (try clear hb2); (try clear hk); (try clear hi); (try clear ho0))))
  (try simp only [Act.put, List.setIfInBounds_toArray, List.set_cons_zero, List.set_cons_succ])
  go_cut [37] (fun v37 wc => ∃ (kq : Nat) (x37_9 : Bool), v37 = .bool x37_9 ∧ Aside0 (dialtonelaw34_RecoveryFair.j0 kq true t607 t611 x37_9 = some r) ∧ Aside0 (kq ≤ k) ∧ Aside0 (Kd.R k39 39 wc w.heap.size (fun _ => True) v608 t607) ∧ Aside0 (Kd.R k60 60 wc w.heap.size (fun _ => True) v612 t611) ∧ Aside0 (Below w.heap.size w wc))
  case first =>
   have H := HC10.out
   clear HC10
   by_cases c18 : t610 = 0
   ·
    rw [if_pos c18] at H
    have c18b0 : (t610 == 0) = true := beq_iff_eq.mpr c18
    have c18b1 : (t610 != 0) = false := bne_eq_false_iff_eq.mpr c18
    clear c18
    (first | rw [c18b0] | (simp only [i64_w, i32_w]; rw [c18b0]) | skip)
    have H' := Aside0.mk H
    clear H
    obtain ⟨Ao19, co19, eo19⟩ := Kd.R_slice HO609.out
    subst eo19
    obtain ⟨Ao20, co20, eo20⟩ := Kd.R_slice HO613.out
    subst eo20
    go_wp2
    repeat (go_quiet (fail); try go_wp2)
    go_meet
    case rel => exact ⟨_, (((t607.length : Int) != (t611.length : Int))), (by first | rfl | (simp; done) | (simp [*]; done)), H', ⟨by first | omega | exact Nat.le_refl _⟩, ⟨by (with_reducible repeat (first | apply Kd.R_alloc | apply Kd.R_drewN | apply Kd.R_drew)); exact HO609.out⟩, ⟨by (with_reducible repeat (first | apply Kd.R_alloc | apply Kd.R_drewN | apply Kd.R_drew)); exact Kd.R_mono HO613.out (fun _ hk => trivial)⟩, ⟨by repeat (first | (with_reducible first | exact HB.out | apply below_alloc | apply pw_below_drewN | apply below_drew1) | exact HB.out)⟩⟩
   ·
    rw [if_neg c18] at H
    have c18b0 : (t610 == 0) = false := beq_eq_false_iff_ne.mpr c18
    have c18b1 : (t610 != 0) = true := bne_iff_ne.mpr c18
    (first | rw [c18b0] | (simp only [i64_w, i32_w]; rw [c18b0]) | skip)
    have H' := Aside0.mk H
    clear H
    go_wp2
    repeat (go_quiet (fail); try go_wp2)
    go_meet
    case rel => exact ⟨_, (true), (by first | rfl | (simp; done) | (simp [*]; done)), H', ⟨by first | omega | exact Nat.le_refl _⟩, ⟨by (with_reducible repeat (first | apply Kd.R_alloc | apply Kd.R_drewN | apply Kd.R_drew)); exact HO609.out⟩, ⟨by (with_reducible repeat (first | apply Kd.R_alloc | apply Kd.R_drewN | apply Kd.R_drew)); exact Kd.R_mono HO613.out (fun _ hk => trivial)⟩, ⟨by repeat (first | (with_reducible first | exact HB.out | apply below_alloc | apply pw_below_drewN | apply below_drew1) | exact HB.out)⟩⟩
  case rest =>
   clear HC10
   try clear c1
   try clear c2
   try clear p2
   try clear c5
   try clear c8
   try clear c18
   try clear c18b0
   try clear c18b1
   obtain ⟨kq, x37_9, rfl, HA, HJ9, HO_9, HO_11, HB⟩ := hcut
   cases kq with
   | zero => exact absurd HA.out (by simp [dialtonelaw34_RecoveryFair.j0])
   | succ kj9 =>
    have H := HA.out
    clear HA
    simp only [dialtonelaw34_RecoveryFair.j0] at H
    by_cases c21 : x37_9 = true
    ·
     subst c21
     have H1 : (none) = some r := by rw [if_pos rfl] at H; exact H
     clear H
     have H := H1
     clear H1
     exact absurd H (by simp)
    ·
     replace c21 := Bool.eq_false_iff.mpr c21
     subst c21
     have H1 : (dialtonelaw34_RecoveryFair.l0 kj9 true t607 t611 (-1) 0) = some r := by rw [if_neg (show ¬ (false = true) by decide)] at H; exact H
     clear H
     have H := H1
     clear H1
     have H' := Aside0.mk H
     clear H
     go_wp2
     repeat (go_quiet (fail); try go_wp2)
     go_loopg [12, 13] kj9 (fun kq v12 v13 w' => ∃ (x12_2 : Int) (x13_2 : Int), v12 = .int .i64 x12_2 ∧ v13 = .int .i64 x13_2 ∧ Aside0 (dialtonelaw34_RecoveryFair.l0 kq true t607 t611 x12_2 x13_2 = some r) ∧ Aside0 (kq ≤ kj9) ∧ Aside0 (Kd.R k39 39 w' w.heap.size (fun _ => True) v608 t607) ∧ Aside0 (Kd.R k60 60 w' w.heap.size (fun _ => True) v612 t611) ∧ Aside0 (Below w.heap.size w w'))
     case atStart => exact ⟨((-1)), (0), (by first | rfl | (simp; done) | (simp [*]; done)), (by first | rfl | (simp; done) | (simp [*]; done)), H', ⟨Nat.le_refl _⟩, ⟨by (with_reducible repeat (first | apply Kd.R_alloc | apply Kd.R_drewN | apply Kd.R_drew)); exact HO_9.out⟩, ⟨by (with_reducible repeat (first | apply Kd.R_alloc | apply Kd.R_drewN | apply Kd.R_drew)); exact HO_11.out⟩, ⟨by repeat (first | (with_reducible first | exact HB.out | apply below_alloc | apply pw_below_drewN | apply below_drew1) | exact HB.out)⟩⟩
     case round =>
      clear H'
      try clear c1
      try clear c2
      try clear p2
      try clear c5
      try clear c8
      try clear c18
      try clear c18b0
      try clear c18b1
      try clear c21
      try clear p2
      obtain ⟨x12_2, x13_2, rfl, rfl, HA, HK2, HO_9, HO_11, HB⟩ := hrel
      cases gk with
      | zero => exact absurd HA.out (by simp [dialtonelaw34_RecoveryFair.l0])
      | succ k2 =>
       have H := HA.out
       clear HA
       simp only [dialtonelaw34_RecoveryFair.l0] at H
       by_cases c22 : x13_2 < (t611.length : Int)
       ·
        rw [if_pos c22] at H
        have c22b0 : decide (x13_2 < (t611.length : Int)) = true := decide_eq_true c22
        clear c22
        have HC23 := Aside0.mk H
        clear H
        obtain ⟨Ao24, co24, eo24⟩ := Kd.R_slice HO_11.out
        subst eo24
        go_upto_region 13 with (fail)
        repeat (go_quiet (fail); go_upto_region 13 with (fail))
        go_cut [67] (fun v67 wc => ∃ (kq : Nat) (x67_22 : Bool), v67 = .bool x67_22 ∧ Aside0 (dialtonelaw34_RecoveryFair.j2 kq true t607 t611 x12_2 x13_2 x67_22 = some r) ∧ Aside0 (kq ≤ k2) ∧ Aside0 (Kd.R k39 39 wc w.heap.size (fun _ => True) v608 t607) ∧ Aside0 (Kd.R k60 60 wc w.heap.size (fun _ => True) (.slice Ao24 t611.length co24) t611) ∧ Aside0 (Below w.heap.size w wc))
        case first =>
         have H := HC23.out
         clear HC23
         by_cases c25 : 0 ≤ x13_2
         ·
          rw [if_pos c25] at H
          have c25b0 : decide (0 ≤ x13_2) = true := decide_eq_true c25
          clear c25
          (first | rw [c25b0] | (simp only [i64_w, i32_w]; rw [c25b0]) | skip)
          by_cases c26 : x13_2 < (t607.length : Int)
          ·
           rw [if_pos c26] at H
           have c26b0 : decide (x13_2 < (t607.length : Int)) = true := decide_eq_true c26
           clear c26
           by_cases c27 : ((rd_T39 t607 x13_2).f0) = ((rd_T60 t611 x13_2).f0)
           ·
            rw [if_pos c27] at H
            have c27b0 : (((rd_T39 t607 x13_2).f0) == ((rd_T60 t611 x13_2).f0)) = true := beq_iff_eq.mpr c27
            have c27b1 : (((rd_T39 t607 x13_2).f0) != ((rd_T60 t611 x13_2).f0)) = false := bne_eq_false_iff_eq.mpr c27
            clear c27
            have H' := Aside0.mk H
            clear H
            obtain ⟨Ao28, co28, eo28⟩ := Kd.R_slice HO_9.out
            subst eo28
            have p614 : 0 ≤ (x13_2 : Int) := of_decide_eq_true (by first | (with_reducible assumption) | assumption)
            have q614 : x13_2 < (t607.length : Int) := of_decide_eq_true (by first | (with_reducible assumption) | assumption)
            obtain ⟨ad614, e614, hx614_0, hx614_1, hx614_2⟩ := at_T39 (Kd.R_reads' HO_9.out).2.2 x13_2 p614 q614
            cases e614
            replace p614 := eq_true p614
            replace q614 := eq_true q614
            have p615 : 0 ≤ (x13_2 : Int) := of_decide_eq_true (by first | (with_reducible assumption) | assumption)
            have q615 : x13_2 < (t611.length : Int) := of_decide_eq_true (by first | (with_reducible assumption) | assumption)
            obtain ⟨ad615, e615, hx615_0, hx615_1, hx615_2⟩ := at_T60 (Kd.R_reads' HO_11.out).2.2 x13_2 p615 q615
            cases e615
            replace p615 := eq_true p615
            replace q615 := eq_true q615
            have p616 : 0 ≤ (x13_2 : Int) := of_decide_eq_true (by first | (with_reducible assumption) | assumption)
            have q616 : x13_2 < (t607.length : Int) := of_decide_eq_true (by first | (with_reducible assumption) | assumption)
            obtain ⟨ad616, e616, hx616_0, hx616_1, hx616_2⟩ := at_T39 (Kd.R_reads' HO_9.out).2.2 x13_2 p616 q616
            obtain rfl : ad614 = ad616 := (by injection e616)
            replace p616 := eq_true p616
            replace q616 := eq_true q616
            have p617 : 0 ≤ (x13_2 : Int) := of_decide_eq_true (by first | (with_reducible assumption) | assumption)
            have q617 : x13_2 < (t611.length : Int) := of_decide_eq_true (by first | (with_reducible assumption) | assumption)
            obtain ⟨ad617, e617, hx617_0, hx617_1, hx617_2⟩ := at_T60 (Kd.R_reads' HO_11.out).2.2 x13_2 p617 q617
            obtain rfl : ad615 = ad617 := (by injection e617)
            replace p617 := eq_true p617
            replace q617 := eq_true q617
            go_wp2
            repeat (go_quiet (fail); try go_wp2)
            go_meet
            case rel => exact ⟨_, ((((rd_T39 t607 x13_2).f1) != ((rd_T60 t611 x13_2).f1))), (by first | rfl | (simp; done) | (simp [*]; done)), H', ⟨by have := HJ9.out; have := HK2.out; first | omega | exact Nat.le_refl _⟩, ⟨by (with_reducible repeat (first | apply Kd.R_alloc | apply Kd.R_drewN | apply Kd.R_drew)); exact HO_9.out⟩, ⟨by (with_reducible repeat (first | apply Kd.R_alloc | apply Kd.R_drewN | apply Kd.R_drew)); exact HO_11.out⟩, ⟨by repeat (first | (with_reducible first | exact HB.out | apply below_alloc | apply pw_below_drewN | apply below_drew1) | exact HB.out)⟩⟩
           ·
            rw [if_neg c27] at H
            have c27b0 : (((rd_T39 t607 x13_2).f0) == ((rd_T60 t611 x13_2).f0)) = false := beq_eq_false_iff_ne.mpr c27
            have c27b1 : (((rd_T39 t607 x13_2).f0) != ((rd_T60 t611 x13_2).f0)) = true := bne_iff_ne.mpr c27
            have H' := Aside0.mk H
            clear H
            obtain ⟨Ao29, co29, eo29⟩ := Kd.R_slice HO_9.out
            subst eo29
            have p614 : 0 ≤ (x13_2 : Int) := of_decide_eq_true (by first | (with_reducible assumption) | assumption)
            have q614 : x13_2 < (t607.length : Int) := of_decide_eq_true (by first | (with_reducible assumption) | assumption)
            obtain ⟨ad614, e614, hx614_0, hx614_1, hx614_2⟩ := at_T39 (Kd.R_reads' HO_9.out).2.2 x13_2 p614 q614
            cases e614
            replace p614 := eq_true p614
            replace q614 := eq_true q614
            have p615 : 0 ≤ (x13_2 : Int) := of_decide_eq_true (by first | (with_reducible assumption) | assumption)
            have q615 : x13_2 < (t611.length : Int) := of_decide_eq_true (by first | (with_reducible assumption) | assumption)
            obtain ⟨ad615, e615, hx615_0, hx615_1, hx615_2⟩ := at_T60 (Kd.R_reads' HO_11.out).2.2 x13_2 p615 q615
            cases e615
            replace p615 := eq_true p615
            replace q615 := eq_true q615
            go_wp2
            repeat (go_quiet (fail); try go_wp2)
            go_meet
            case rel => exact ⟨_, (true), (by first | rfl | (simp; done) | (simp [*]; done)), H', ⟨by have := HJ9.out; have := HK2.out; first | omega | exact Nat.le_refl _⟩, ⟨by (with_reducible repeat (first | apply Kd.R_alloc | apply Kd.R_drewN | apply Kd.R_drew)); exact HO_9.out⟩, ⟨by (with_reducible repeat (first | apply Kd.R_alloc | apply Kd.R_drewN | apply Kd.R_drew)); exact HO_11.out⟩, ⟨by repeat (first | (with_reducible first | exact HB.out | apply below_alloc | apply pw_below_drewN | apply below_drew1) | exact HB.out)⟩⟩
          ·
           rw [if_neg c26] at H
           exact absurd H (by simp)
         ·
          rw [if_neg c25] at H
          exact absurd H (by simp)
        case rest =>
         clear HC23
         try clear c1
         try clear c2
         try clear p2
         try clear c5
         try clear p6
         try clear q6
         try clear hx6
         try clear c8
         try clear c18
         try clear c18b0
         try clear c18b1
         try clear c21
         try clear c22
         try clear c22b0
         try clear c25
         try clear c25b0
         try clear c26
         try clear c26b0
         try clear c27
         try clear c27b0
         try clear c27b1
         try clear hx614_0
         try clear hx614_1
         try clear hx614_2
         try clear hx615_0
         try clear hx615_1
         try clear hx615_2
         try clear hx616_0
         try clear hx616_1
         try clear hx616_2
         try clear hx617_0
         try clear hx617_1
         try clear hx617_2
         try clear p2
         try clear p614
         try clear p615
         try clear p616
         try clear p617
         try clear q614
         try clear q615
         try clear q616
         try clear q617
         obtain ⟨kq, x67_22, rfl, HA, HJ22, HO_9, HO_11, HB⟩ := hcut
         cases kq with
         | zero => exact absurd HA.out (by simp [dialtonelaw34_RecoveryFair.j2])
         | succ kj22 =>
          have H := HA.out
          clear HA
          simp only [dialtonelaw34_RecoveryFair.j2] at H
          by_cases c30 : x67_22 = true
          ·
           subst c30
           have H1 : (none) = some r := by rw [if_pos rfl] at H; exact H
           clear H
           have H := H1
           clear H1
           exact absurd H (by simp)
          ·
           replace c30 := Bool.eq_false_iff.mpr c30
           subst c30
           have H1 : (if 0 ≤ x13_2 then (if x13_2 < (t611.length : Int) then (if ((rd_T60 t611 x13_2).f2 = true) then (dialtonelaw34_RecoveryFair.l0 kj22 true t607 t611 x12_2 (wrap64 (x13_2 + 1))) else (if x13_2 < (t607.length : Int) then (if ((rd_T39 t607 x13_2).f2) < x12_2 then (none) else (dialtonelaw34_RecoveryFair.l0 kj22 true t607 t611 ((rd_T39 t607 x13_2).f2) (wrap64 (x13_2 + 1)))) else (none))) else (none)) else (none)) = some r := by rw [if_neg (show ¬ (false = true) by decide)] at H; exact H
           clear H
           have H := H1
           clear H1
           by_cases c31 : 0 ≤ x13_2
           ·
            rw [if_pos c31] at H
            have c31b0 : decide (0 ≤ x13_2) = true := decide_eq_true c31
            clear c31
            by_cases c32 : x13_2 < (t611.length : Int)
            ·
             rw [if_pos c32] at H
             have c32b0 : decide (x13_2 < (t611.length : Int)) = true := decide_eq_true c32
             clear c32
             obtain ⟨bq33, hbq33⟩ : ∃ b_ : Bool, b_ = ((rd_T60 t611 x13_2).f2) := ⟨_, rfl⟩
             replace H : (if (bq33 = true) then (dialtonelaw34_RecoveryFair.l0 kj22 true t607 t611 x12_2 (wrap64 (x13_2 + 1))) else (if x13_2 < (t607.length : Int) then (if ((rd_T39 t607 x13_2).f2) < x12_2 then (none) else (dialtonelaw34_RecoveryFair.l0 kj22 true t607 t611 ((rd_T39 t607 x13_2).f2) (wrap64 (x13_2 + 1)))) else (none))) = some r := by rw [← hbq33] at H; exact H
             have Nbq33 := Aside0.mk hbq33
             clear hbq33
             by_cases c34 : (bq33 = true)
             ·
              subst c34
              have H1 : (dialtonelaw34_RecoveryFair.l0 kj22 true t607 t611 x12_2 (wrap64 (x13_2 + 1))) = some r := by rw [if_pos rfl] at H; exact H
              clear H
              have H := H1
              clear H1
              have H' := Aside0.mk H
              clear H
              have p618 : 0 ≤ (x13_2 : Int) := of_decide_eq_true (by first | (with_reducible assumption) | assumption)
              have q618 : x13_2 < (t611.length : Int) := of_decide_eq_true (by first | (with_reducible assumption) | assumption)
              obtain ⟨ad618, e618, hx618_0, hx618_1, hx618_2⟩ := at_T60 (Kd.R_reads' HO_11.out).2.2 x13_2 p618 q618
              (try rw [← Nbq33.out] at hx618_2)
              cases e618
              replace p618 := eq_true p618
              replace q618 := eq_true q618
              go_wp2
              repeat (go_quiet (fail); try go_wp2)
              go_roundg kj22
              case measure => have := HJ9.out; have := HK2.out; have := HJ22.out; omega
              case rel => exact ⟨(x12_2), (wrap64 (x13_2 + 1)), (by first | rfl | (simp; done) | (simp [*]; done)), (by first | rfl | (simp; done) | (simp [*]; done)), H', ⟨by have := HJ9.out; have := HK2.out; have := HJ22.out; omega⟩, ⟨by (with_reducible repeat (first | apply Kd.R_alloc | apply Kd.R_drewN | apply Kd.R_drew)); exact HO_9.out⟩, ⟨by (with_reducible repeat (first | apply Kd.R_alloc | apply Kd.R_drewN | apply Kd.R_drew)); exact HO_11.out⟩, ⟨by repeat (first | (with_reducible first | exact HB.out | apply below_alloc | apply pw_below_drewN | apply below_drew1) | exact HB.out)⟩⟩
             ·
              replace c34 := Bool.eq_false_iff.mpr c34
              subst c34
              have H1 : (if x13_2 < (t607.length : Int) then (if ((rd_T39 t607 x13_2).f2) < x12_2 then (none) else (dialtonelaw34_RecoveryFair.l0 kj22 true t607 t611 ((rd_T39 t607 x13_2).f2) (wrap64 (x13_2 + 1)))) else (none)) = some r := by rw [if_neg (show ¬ (false = true) by decide)] at H; exact H
              clear H
              have H := H1
              clear H1
              by_cases c35 : x13_2 < (t607.length : Int)
              ·
               rw [if_pos c35] at H
               have c35b0 : decide (x13_2 < (t607.length : Int)) = true := decide_eq_true c35
               clear c35
               by_cases c36 : ((rd_T39 t607 x13_2).f2) < x12_2
               ·
                rw [if_pos c36] at H
                exact absurd H (by simp)
               ·
                rw [if_neg c36] at H
                have c36b0 : decide (((rd_T39 t607 x13_2).f2) < x12_2) = false := decide_eq_false c36
                clear c36
                have H' := Aside0.mk H
                clear H
                have p618 : 0 ≤ (x13_2 : Int) := of_decide_eq_true (by first | (with_reducible assumption) | assumption)
                have q618 : x13_2 < (t611.length : Int) := of_decide_eq_true (by first | (with_reducible assumption) | assumption)
                obtain ⟨ad618, e618, hx618_0, hx618_1, hx618_2⟩ := at_T60 (Kd.R_reads' HO_11.out).2.2 x13_2 p618 q618
                (try rw [← Nbq33.out] at hx618_2)
                cases e618
                replace p618 := eq_true p618
                replace q618 := eq_true q618
                obtain ⟨Ao37, co37, eo37⟩ := Kd.R_slice HO_9.out
                subst eo37
                have p619 : 0 ≤ (x13_2 : Int) := of_decide_eq_true (by first | (with_reducible assumption) | assumption)
                have q619 : x13_2 < (t607.length : Int) := of_decide_eq_true (by first | (with_reducible assumption) | assumption)
                obtain ⟨ad619, e619, hx619_0, hx619_1, hx619_2⟩ := at_T39 (Kd.R_reads' HO_9.out).2.2 x13_2 p619 q619
                cases e619
                replace p619 := eq_true p619
                replace q619 := eq_true q619
                have p620 : 0 ≤ (x13_2 : Int) := of_decide_eq_true (by first | (with_reducible assumption) | assumption)
                have q620 : x13_2 < (t607.length : Int) := of_decide_eq_true (by first | (with_reducible assumption) | assumption)
                obtain ⟨ad620, e620, hx620_0, hx620_1, hx620_2⟩ := at_T39 (Kd.R_reads' HO_9.out).2.2 x13_2 p620 q620
                obtain rfl : ad619 = ad620 := (by injection e620)
                replace p620 := eq_true p620
                replace q620 := eq_true q620
                go_wp2
                repeat (go_quiet (fail); try go_wp2)
                go_roundg kj22
                case measure => have := HJ9.out; have := HK2.out; have := HJ22.out; omega
                case rel => exact ⟨((rd_T39 t607 x13_2).f2), (wrap64 (x13_2 + 1)), (by first | rfl | (simp; done) | (simp [*]; done)), (by first | rfl | (simp; done) | (simp [*]; done)), H', ⟨by have := HJ9.out; have := HK2.out; have := HJ22.out; omega⟩, ⟨by (with_reducible repeat (first | apply Kd.R_alloc | apply Kd.R_drewN | apply Kd.R_drew)); exact HO_9.out⟩, ⟨by (with_reducible repeat (first | apply Kd.R_alloc | apply Kd.R_drewN | apply Kd.R_drew)); exact HO_11.out⟩, ⟨by repeat (first | (with_reducible first | exact HB.out | apply below_alloc | apply pw_below_drewN | apply below_drew1) | exact HB.out)⟩⟩
              ·
               rw [if_neg c35] at H
               exact absurd H (by simp)
            ·
             rw [if_neg c32] at H
             exact absurd H (by simp)
           ·
            rw [if_neg c31] at H
            exact absurd H (by simp)
       ·
        rw [if_neg c22] at H
        have c22b0 : decide (x13_2 < (t611.length : Int)) = false := decide_eq_false c22
        clear c22
        obtain rfl := Option.some.inj H
        obtain ⟨Ao38, co38, eo38⟩ := Kd.R_slice HO_11.out
        subst eo38
        go_wp2
        repeat (go_quiet (fail); try go_wp2)
        go_ret
        exact ⟨by first | rfl | (simp [errW_none, errW_some] <;> rfl) | (simp [*, errW_none, errW_some] <;> rfl), by repeat (first | (with_reducible first | exact HB.out | apply below_alloc | apply pw_below_drewN | apply below_drew1) | exact HB.out)⟩
 ·
  replace c5 := Bool.eq_false_iff.mpr c5
  subst c5
  have H1 : (none) = some r := by rw [if_neg (show ¬ (false = true) by decide)] at H; exact H
  clear H
  have H := H1
  clear H1
  exact absurd H (by simp)

end Go.Proofs.Ytcldldmedphcfaa.C
