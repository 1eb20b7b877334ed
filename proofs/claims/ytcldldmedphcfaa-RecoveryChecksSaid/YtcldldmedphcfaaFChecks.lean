-- Written for this claim by a program of this session (wip/tools/hprint.py) out of the translation. Lean checks it.
import Derived.Test.YtcldldmedphcfaaCKinds
import Derived.Test.YtcldldmedphcfaaCCheck
import Derived.Test.YtcldldmedphcfaaCSane
import Derived.Test.YtcldldmedphcfaaCMade
import Derived.Test.YtcldldmedphcfaaCAttempts
import Derived.Test.YtcldldmedphcfaaHPick
import Derived.Test.YtcldldmedphcfaaHPlan
namespace Go.Proofs.Ytcldldmedphcfaa.C
open Go.RowKit Go.Proofs.YtcldldmedphcfaaW.PrintWords Go.Proofs.YtcldldmedphcfaaW.PrintLast Go.Proofs.YtcldldmedphcfaaW.PrintMore
attribute [local go_sem] max2_int min2_int max_two min_two max_three min_three max_four min_four   -- for this text's walks alone
set_option linter.unusedVariables false
set_option linter.unusedSimpArgs false

/-! ### dialtonelaw34_RecoveryChecks: function 4 -/
mutual
def dialtonelaw34_RecoveryChecks.j0 : Nat → Int → Int → Int → Int → List (S60) → List (S39) → Bool → List (S67) → Int → Option (Bool)
 | 0, _, _, _, _, _, _, _, _, _ => none
 | k + 1, x3, x4, x5, x6, x17, x18, x45, x270000, x270001 => if x45 = true then (none) else ((some (([] : List (S39)) : List (S39))).bind fun y278 => (if y278.length + x18.length < 5864062014805 then ((some (y278 ++ x18 : List (S39))).bind fun y281 => (if (y281.length : Int) = 0 then ((recovery_Check.f k x270000 x270001 x17 (([(⟨0, 0, 0⟩ : S39)] : List (S39)))).bind fun t287 => (some (!t287))) else ((dialtonelaw34_pick.f x3 (y281.length : Int)).bind fun t288 => ((dialtonelaw34_pick.f x4 (y281.length : Int)).bind fun t289 => ((dialtonelaw34_pick.f x5 5).bind fun t290 => (if t290 = 0 then (if 0 ≤ t288 then (if t288 < (y281.length : Int) then ((dialtonelaw34_pick.f x6 3).bind fun t292 => (dialtonelaw34_RecoveryChecks.j1 k x5 x17 (y281.set (t288 : Int).toNat (⟨(rd_T39 y281 t288).f0, (rd_T39 y281 t288).f1, wrap64 ((wrap64 (((rd_T39 y281 t288).f2) + 1)) + t292)⟩ : S39)) t288 t289 x270000 x270001)) else (none)) else (none)) else (if t290 = 1 then (if 0 ≤ t288 then (if t288 < (y281.length : Int) then (dialtonelaw34_RecoveryChecks.j1 k x5 x17 (y281.set (t288 : Int).toNat (⟨(rd_T39 y281 t288).f0, wrap64 (((rd_T39 y281 t288).f1) - 1), (rd_T39 y281 t288).f2⟩ : S39)) t288 t289 x270000 x270001) else (none)) else (none)) else (if t290 = 2 then (if 0 ≤ t289 then (if t289 < (y281.length : Int) then (if 0 ≤ t288 then (if t288 < (y281.length : Int) then (dialtonelaw34_RecoveryChecks.j1 k x5 x17 ((y281.set (t288 : Int).toNat (⟨(rd_T39 y281 t289).f0, (rd_T39 y281 t289).f1, (rd_T39 y281 t289).f2⟩ : S39)).set (t289 : Int).toNat (⟨(rd_T39 y281 t288).f0, (rd_T39 y281 t288).f1, (rd_T39 y281 t288).f2⟩ : S39)) t288 t289 x270000 x270001) else (none)) else (none)) else (none)) else (none)) else (if t290 = 3 then (if 0 ≤ t288 then (if t288 ≤ (y281.length : Int) then (if 0 ≤ (wrap64 (t288 + 1)) then (if (wrap64 (t288 + 1)) ≤ (y281.length : Int) then (dialtonelaw34_RecoveryChecks.j1 k x5 x17 (y281.eraseIdx (t288 : Int).toNat) t288 t289 x270000 x270001) else (none)) else (none)) else (none)) else (none)) else (if 0 ≤ t288 then (if t288 < (y281.length : Int) then (if y281.length < 5864062014805 then (dialtonelaw34_RecoveryChecks.j1 k x5 x17 (y281 ++ [(⟨(rd_T39 y281 t288).f0, (rd_T39 y281 t288).f1, (rd_T39 y281 t288).f2⟩ : S39)]) t288 t289 x270000 x270001) else (none)) else (none)) else (none))))))))))) else (none)))
def dialtonelaw34_RecoveryChecks.j1 : Nat → Int → List (S60) → List (S39) → Int → Int → List (S67) → Int → Option (Bool)
 | 0, _, _, _, _, _, _, _ => none
 | k + 1, x5, x17, x20, x21, x22, x270000, x270001 => (recovery_Check.f k x270000 x270001 x17 x20).bind fun t315 => ((dialtonelaw34_pick.f x5 5).bind fun t316 => (if t316 = 2 then (some (t315 == (x21 == x22))) else (some (t315 == false))))
end
def dialtonelaw34_RecoveryChecks.f (k : Nat) (l0 : List (S71)) (a1 : Int) (l2 : List (S71)) (a3 : Int) (a4 : Int) (a5 : Int) (a6 : Int) : Option (Bool) := (dialtonelaw34_sane.f k).bind fun t264 => (if t264 = true then ((dialtoneref34_Made.f k l0 a1).bind fun bt265 => ((dialtoneref34_Attempts.f k l2).bind fun t270 => ((recovery_Plan.f bt265.1 bt265.2 t270).bind fun bt273 => (if bt273.2 = 0 then ((recovery_Check.f k bt265.1 bt265.2 t270 bt273.1).bind fun t277 => (dialtonelaw34_RecoveryChecks.j0 k a3 a4 a5 a6 t270 bt273.1 (!t277) bt265.1 bt265.2)) else (dialtonelaw34_RecoveryChecks.j0 k a3 a4 a5 a6 t270 bt273.1 true bt265.1 bt265.2))))) else (none))
theorem dialtonelaw34_RecoveryChecks.mono_l : ∀ k, (∀ y0 y1 y2 y3 y4 y5 y6 y7 y8, LeO (dialtonelaw34_RecoveryChecks.j0 k y0 y1 y2 y3 y4 y5 y6 y7 y8) (dialtonelaw34_RecoveryChecks.j0 (k + 1) y0 y1 y2 y3 y4 y5 y6 y7 y8)) ∧ (∀ y0 y1 y2 y3 y4 y5 y6, LeO (dialtonelaw34_RecoveryChecks.j1 k y0 y1 y2 y3 y4 y5 y6) (dialtonelaw34_RecoveryChecks.j1 (k + 1) y0 y1 y2 y3 y4 y5 y6))
 | 0 => ⟨fun _ _ _ _ _ _ _ _ _ r h => by simp [dialtonelaw34_RecoveryChecks.j0] at h, fun _ _ _ _ _ _ _ r h => by simp [dialtonelaw34_RecoveryChecks.j1] at h⟩
 | k + 1 => by
  obtain ⟨ih0, ih1⟩ := dialtonelaw34_RecoveryChecks.mono_l k
  refine ⟨?_, ?_⟩
  ·
   intro y0 y1 y2 y3 y4 y5 y6 y7 y8
   unfold dialtonelaw34_RecoveryChecks.j0
   repeat' first
   | (with_reducible exact ih0 _ _ _ _ _ _ _ _ _)
   | (with_reducible exact ih1 _ _ _ _ _ _ _)
   | (with_reducible exact dialtonelaw34_sane.mono _)
   | (with_reducible exact dialtoneref34_Attempts.mono _ _)
   | (with_reducible exact dialtoneref34_Made.mono _ _ _)
   | (with_reducible exact recovery_Check.mono _ _ _ _ _)
   | (with_reducible exact LeO.refl _)
   | (with_reducible exact LeO.none _)
   | (with_reducible refine LeO.ite ?_ ?_)
   | (with_reducible refine LeO.bind ?_ (fun _ => ?_))
   | exact ih0 _ _ _ _ _ _ _ _ _
   | exact ih1 _ _ _ _ _ _ _
   | exact dialtonelaw34_sane.mono _
   | exact dialtoneref34_Attempts.mono _ _
   | exact dialtoneref34_Made.mono _ _ _
   | exact recovery_Check.mono _ _ _ _ _
   | exact LeO.none _
   | refine LeO.ite ?_ ?_
   | refine LeO.bind ?_ (fun _ => ?_)
  ·
   intro y0 y1 y2 y3 y4 y5 y6
   unfold dialtonelaw34_RecoveryChecks.j1
   repeat' first
   | (with_reducible exact ih0 _ _ _ _ _ _ _ _ _)
   | (with_reducible exact ih1 _ _ _ _ _ _ _)
   | (with_reducible exact dialtonelaw34_sane.mono _)
   | (with_reducible exact dialtoneref34_Attempts.mono _ _)
   | (with_reducible exact dialtoneref34_Made.mono _ _ _)
   | (with_reducible exact recovery_Check.mono _ _ _ _ _)
   | (with_reducible exact LeO.refl _)
   | (with_reducible exact LeO.none _)
   | (with_reducible refine LeO.ite ?_ ?_)
   | (with_reducible refine LeO.bind ?_ (fun _ => ?_))
   | exact ih0 _ _ _ _ _ _ _ _ _
   | exact ih1 _ _ _ _ _ _ _
   | exact dialtonelaw34_sane.mono _
   | exact dialtoneref34_Attempts.mono _ _
   | exact dialtoneref34_Made.mono _ _ _
   | exact recovery_Check.mono _ _ _ _ _
   | exact LeO.none _
   | refine LeO.ite ?_ ?_
   | refine LeO.bind ?_ (fun _ => ?_)
theorem dialtonelaw34_RecoveryChecks.mono : ∀ a0 a1 a2 a3 a4 a5 a6 k, LeO (dialtonelaw34_RecoveryChecks.f k a0 a1 a2 a3 a4 a5 a6) (dialtonelaw34_RecoveryChecks.f (k + 1) a0 a1 a2 a3 a4 a5 a6) := by
 intro a0 a1 a2 a3 a4 a5 a6 k
 obtain ⟨ih0, ih1⟩ := dialtonelaw34_RecoveryChecks.mono_l k
 unfold dialtonelaw34_RecoveryChecks.f
 repeat' first
   | (with_reducible exact ih0 _ _ _ _ _ _ _ _ _)
   | (with_reducible exact ih1 _ _ _ _ _ _ _)
   | (with_reducible exact dialtonelaw34_sane.mono _)
   | (with_reducible exact dialtoneref34_Attempts.mono _ _)
   | (with_reducible exact dialtoneref34_Made.mono _ _ _)
   | (with_reducible exact recovery_Check.mono _ _ _ _ _)
   | (with_reducible exact LeO.refl _)
   | (with_reducible exact LeO.none _)
   | (with_reducible refine LeO.ite ?_ ?_)
   | (with_reducible refine LeO.bind ?_ (fun _ => ?_))
   | exact ih0 _ _ _ _ _ _ _ _ _
   | exact ih1 _ _ _ _ _ _ _
   | exact dialtonelaw34_sane.mono _
   | exact dialtoneref34_Attempts.mono _ _
   | exact dialtoneref34_Made.mono _ _ _
   | exact recovery_Check.mono _ _ _ _ _
   | exact LeO.none _
   | refine LeO.ite ?_ ?_
   | refine LeO.bind ?_ (fun _ => ?_)
def dialtonelaw34_RecoveryChecks.T17 : Bool × List (List Nat × List Nat) := (true, [([], []), ([], []), ([], []), ([], []), ([2, 3], [2, 3]), ([4], [4]), ([5], [5]), ([6], [6]), ([], []), ([8], [8]), ([7, 9], [7, 9]), ([0, 1, 0, 1, 2, 3, 4, 5, 6, 7, 8, 9, 10], [0, 1]), ([11, 0, 1, 2, 3, 4, 5, 6, 7, 8, 9, 10], [11]), ([12, 10, 9, 0, 1, 2, 3, 4, 5, 6, 7, 8, 9, 10], [10, 12])])
def dialtonelaw34_RecoveryChecks.B17 : List Nat := [0, 0, 0, 0, 12, 28, 60, 124, 0, 256, 1020, 2047, 4095, 8191]
theorem dialtonelaw34_RecoveryChecks.tab17 : rtab .any (opsOf Try.f4 17) = dialtonelaw34_RecoveryChecks.T17 := by kernel_rfl
theorem dialtonelaw34_RecoveryChecks.bits17 : waitsOk dialtonelaw34_RecoveryChecks.T17.2 dialtonelaw34_RecoveryChecks.B17 = true := by kernel_rfl
def dialtonelaw34_RecoveryChecks.T21 : Bool × List (List Nat × List Nat) := (true, [([], []), ([], []), ([], []), ([], []), ([], []), ([], []), ([4, 5], [4, 5]), ([6], [6]), ([], []), ([], []), ([8, 9], [8, 9]), ([10], [10]), ([0, 1, 0, 1, 4, 5, 6, 7, 11], [0, 1]), ([12, 7, 0, 1, 4, 5, 6, 7, 11], [7, 12]), ([2, 3, 0, 1, 2, 3, 4, 5, 6, 7, 8, 9, 10, 11, 12, 13], [2, 3]), ([14, 11, 13, 0, 1, 2, 3, 4, 5, 6, 7, 8, 9, 10, 11, 12, 13], [11, 14])])
def dialtonelaw34_RecoveryChecks.B21 : List Nat := [0, 0, 0, 0, 0, 0, 48, 112, 0, 0, 768, 1792, 4083, 8179, 16383, 32767]
theorem dialtonelaw34_RecoveryChecks.tab21 : rtab .any (opsOf Try.f4 21) = dialtonelaw34_RecoveryChecks.T21 := by kernel_rfl
theorem dialtonelaw34_RecoveryChecks.bits21 : waitsOk dialtonelaw34_RecoveryChecks.T21.2 dialtonelaw34_RecoveryChecks.B21 = true := by kernel_rfl
def dialtonelaw34_RecoveryChecks.T23 : Bool × List (List Nat × List Nat) := (true, [([], []), ([], []), ([0, 1], [0, 1]), ([], []), ([], []), ([4], [4]), ([3, 5], [3, 5]), ([2, 6], [2, 6]), ([7, 7, 0, 1, 2, 3, 4, 5, 6, 7], [0, 3, 7])])
def dialtonelaw34_RecoveryChecks.B23 : List Nat := [0, 0, 3, 0, 0, 16, 56, 127, 255]
theorem dialtonelaw34_RecoveryChecks.tab23 : rtab .any (opsOf Try.f4 23) = dialtonelaw34_RecoveryChecks.T23 := by kernel_rfl
theorem dialtonelaw34_RecoveryChecks.bits23 : waitsOk dialtonelaw34_RecoveryChecks.T23.2 dialtonelaw34_RecoveryChecks.B23 = true := by kernel_rfl
set_option maxHeartbeats 8000000 in
set_option maxRecDepth 100000 in
theorem dialtonelaw34_RecoveryChecks.calls (k : Nat) (A0 : Option Addr) (c0 : Nat) (l0 : List (S71)) (a1 : Int) (A2 : Option Addr) (c2 : Nat) (l2 : List (S71)) (a3 : Int) (a4 : Int) (a5 : Int) (a6 : Int) (r : Bool) (w : World) (hr0 : Kd.C k71 w A0 l0.length l0) (hc0 : l0.length ≤ c0) (hr2 : Kd.C k71 w A2 l2.length l2) (hc2 : l2.length ≤ c2) (h : dialtonelaw34_RecoveryChecks.f k l0 a1 l2 a3 a4 a5 a6 = some r) :
  Calls Try.prog 4 #[.slice A0 l0.length c0, .int .i64 a1, .slice A2 l2.length c2, .int .i64 a3, .int .i64 a4, .int .i64 a5, .int .i64 a6] w fun e w' => e = .returned (.bool r) ∧ Below w.heap.size w w' := by
 have hu26 := Try.underlying26
 have hu39 := Try.underlying39
 have HR0 := Aside0.mk hr0
 have HC0 := Aside0.mk hc0
 clear hr0 hc0
 have HR2 := Aside0.mk hr2
 have HC2 := Aside0.mk hc2
 clear hr2 hc2
 have HB := Aside0.mk (Below.refl w.heap.size w)
 have H : ((dialtonelaw34_sane.f k).bind fun t264 => (if t264 = true then ((dialtoneref34_Made.f k l0 a1).bind fun bt265 => ((dialtoneref34_Attempts.f k l2).bind fun t270 => ((recovery_Plan.f bt265.1 bt265.2 t270).bind fun bt273 => (if bt273.2 = 0 then ((recovery_Check.f k bt265.1 bt265.2 t270 bt273.1).bind fun t277 => (dialtonelaw34_RecoveryChecks.j0 k a3 a4 a5 a6 t270 bt273.1 (!t277) bt265.1 bt265.2)) else (dialtonelaw34_RecoveryChecks.j0 k a3 a4 a5 a6 t270 bt273.1 true bt265.1 bt265.2))))) else (none))) = some r := h
 clear h
 replace H := Option.bind_eq_some_iff.mp H
 obtain ⟨t264, A80, H⟩ := H
 replace H : (if t264 = true then ((dialtoneref34_Made.f k l0 a1).bind fun bt265 => ((dialtoneref34_Attempts.f k l2).bind fun t270 => ((recovery_Plan.f bt265.1 bt265.2 t270).bind fun bt273 => (if bt273.2 = 0 then ((recovery_Check.f k bt265.1 bt265.2 t270 bt273.1).bind fun t277 => (dialtonelaw34_RecoveryChecks.j0 k a3 a4 a5 a6 t270 bt273.1 (!t277) bt265.1 bt265.2)) else (dialtonelaw34_RecoveryChecks.j0 k a3 a4 a5 a6 t270 bt273.1 true bt265.1 bt265.2))))) else (none)) = some r := H
 have A8 := Aside0.mk A80
 clear A80
 by_cases c9 : t264 = true
 ·
  subst c9
  have H1 : ((dialtoneref34_Made.f k l0 a1).bind fun bt265 => ((dialtoneref34_Attempts.f k l2).bind fun t270 => ((recovery_Plan.f bt265.1 bt265.2 t270).bind fun bt273 => (if bt273.2 = 0 then ((recovery_Check.f k bt265.1 bt265.2 t270 bt273.1).bind fun t277 => (dialtonelaw34_RecoveryChecks.j0 k a3 a4 a5 a6 t270 bt273.1 (!t277) bt265.1 bt265.2)) else (dialtonelaw34_RecoveryChecks.j0 k a3 a4 a5 a6 t270 bt273.1 true bt265.1 bt265.2))))) = some r := by rw [if_pos rfl] at H; exact H
  clear H
  have H := H1
  clear H1
  replace H := Option.bind_eq_some_iff.mp H
  obtain ⟨⟨t265, t268⟩, A100, H⟩ := H
  replace H : ((dialtoneref34_Attempts.f k l2).bind fun t270 => ((recovery_Plan.f t265 t268 t270).bind fun bt273 => (if bt273.2 = 0 then ((recovery_Check.f k t265 t268 t270 bt273.1).bind fun t277 => (dialtonelaw34_RecoveryChecks.j0 k a3 a4 a5 a6 t270 bt273.1 (!t277) t265 t268)) else (dialtonelaw34_RecoveryChecks.j0 k a3 a4 a5 a6 t270 bt273.1 true t265 t268)))) = some r := H
  have A10 := Aside0.mk A100
  clear A100
  replace H := Option.bind_eq_some_iff.mp H
  obtain ⟨t270, A110, H⟩ := H
  replace H : ((recovery_Plan.f t265 t268 t270).bind fun bt273 => (if bt273.2 = 0 then ((recovery_Check.f k t265 t268 t270 bt273.1).bind fun t277 => (dialtonelaw34_RecoveryChecks.j0 k a3 a4 a5 a6 t270 bt273.1 (!t277) t265 t268)) else (dialtonelaw34_RecoveryChecks.j0 k a3 a4 a5 a6 t270 bt273.1 true t265 t268))) = some r := H
  have A11 := Aside0.mk A110
  clear A110
  replace H := Option.bind_eq_some_iff.mp H
  obtain ⟨⟨t273, t276⟩, A120, H⟩ := H
  replace H : (if t276 = 0 then ((recovery_Check.f k t265 t268 t270 t273).bind fun t277 => (dialtonelaw34_RecoveryChecks.j0 k a3 a4 a5 a6 t270 t273 (!t277) t265 t268)) else (dialtonelaw34_RecoveryChecks.j0 k a3 a4 a5 a6 t270 t273 true t265 t268)) = some r := H
  have A12 := Aside0.mk A120
  clear A120
  have HC13 := Aside0.mk H
  clear H
  go_enter Try.func4, Try.ntmps4
  go_upto_region 7 with (first | ((with_reducible refine gate_callee (f := 13) rfl ?_); refine goesL_ (some 23) rfl rfl Try.func13 (by kernel_rfl) rfl #[] rfl (by (try simp only [List.map_toArray, List.map_cons, List.map_nil]); first | done | rfl | (simp only [List.length_drop, List.length_take]; rfl)) ?_; (with_reducible refine (dialtonelaw34_sane.calls k  true _ A8.out).mono ?_); rintro e w14 ⟨rfl, hb⟩; refine ⟨_, rfl, ?_⟩; have n0_ := Aside0.mk (below_step (by repeat (first | (with_reducible first | exact HB.out | apply below_alloc | apply pw_below_drewN | apply below_drew1) | exact HB.out)) hb); clear HB; have HB := n0_; clear n0_; (try clear hb); (try clear hb2); (try clear hk); (try clear hi)) | ((with_reducible refine gate_callee (f := 14) rfl ?_); refine goesL_ (some 28) rfl rfl Try.func14 (by kernel_rfl) rfl #[.slice A0 l0.length c0, .int .i64 a1] rfl (by (try simp only [List.map_toArray, List.map_cons, List.map_nil]); first | done | rfl | (simp only [List.length_drop, List.length_take]; rfl)) ?_; (with_reducible refine (dialtoneref34_Made.calls k _ _ l0 a1 t265 t268 _ ?side1 ?side2 A10.out).mono ?_); (case side1 => repeat (first | exact (Kd.C_below HR0.out HB.out) | (with_reducible refine Kd.C_alloc ?_ _) | (with_reducible refine Kd.C_drewN ?_ _) | (with_reducible refine Kd.C_drew ?_))); (case side2 => exact HC0.out); rintro e w15 ⟨v266, rfl, ho0, hb⟩; refine ⟨_, rfl, ?_⟩; have n0_ := Aside0.mk (Kd.R_lower ho0 (below_size (by repeat (first | (with_reducible first | exact HB.out | apply below_alloc | apply pw_below_drewN | apply below_drew1) | exact HB.out)))); have n1_ := Aside0.mk (below_step (by repeat (first | (with_reducible first | exact HB.out | apply below_alloc | apply pw_below_drewN | apply below_drew1) | exact HB.out)) hb); clear HB; have HO267 := n0_; have HB := n1_; clear n0_ n1_; (try clear hb); (try clear hb2); (try clear hk); (try clear hi); (try clear ho0)) | ((with_reducible refine gate_dst (N := 16) rfl ?_); refine box_event ?hg (N := 16) ?hd (cs := #[.slice none 0 0, .int .i64 0]) (t := 26) ?hr ?_; (case hd => rfl); (case hg => rfl); (case hr => first | (go_simp; done) | (go_simp; rfl)); intro gb269 hg w16 hbox hb; have n0_ := Aside0.mk (Kd.R_below (by (with_reducible repeat (first | apply Kd.R_alloc | apply Kd.R_drewN | apply Kd.R_drew)); exact HO267.out) hb); have n1_ := Aside0.mk (below_step (by repeat (first | (with_reducible first | exact HB.out | apply below_alloc | apply pw_below_drewN | apply below_drew1) | exact HB.out)) hb); have n2_ := Aside0.mk (hbox); have n3_ := Aside0.mk ((by rw [hg]; exact (below_size (by repeat (first | (with_reducible first | exact HB.out | apply below_alloc | apply pw_below_drewN | apply below_drew1) | exact HB.out))) : w.heap.size ≤ gb269)); have n4_ := Aside0.mk ((by rw [hg]; exact (below_size (by repeat (first | (with_reducible first | exact HB.out | apply below_alloc | apply pw_below_drewN | apply below_drew1) | exact HB.out))) : w.heap.size ≤ gb269)); clear HO267; clear HB; have HO267 := n0_; have HB := n1_; have BK269 := n2_; have GW269 := n3_; have GE269 := n4_; clear n0_ n1_ n2_ n3_ n4_; clear hb hbox hg; obtain ⟨Ao17, co17, eo17⟩ := Kd.R_slice HO267.out; subst eo17; have hcz18_0 : w16.cell? ⟨gb269, 0, none⟩ = some (.slice none 0 0) := (blk_cell BK269.out 0).trans rfl; have hcz18_1 : w16.cell? ⟨gb269, 1, none⟩ = some (.int .i64 0) := (blk_cell BK269.out 1).trans rfl; have hfz18_0 := blk_frozen BK269.out 0; have hfz18_1 := blk_frozen BK269.out 1) | ((with_reducible refine gate_callee (f := 15) rfl ?_); refine goesL_ (some 30) rfl rfl Try.func15 (by kernel_rfl) rfl #[.slice A2 l2.length c2] rfl (by (try simp only [List.map_toArray, List.map_cons, List.map_nil]); first | done | rfl | (simp only [List.length_drop, List.length_take]; rfl)) ?_; (with_reducible refine (dialtoneref34_Attempts.calls k _ _ l2 t270 _ ?side1 ?side2 A11.out).mono ?_); (case side1 => exact Kd.C_below HR2.out (by repeat (first | (with_reducible first | exact HB.out | apply below_alloc | apply pw_below_drewN | apply below_drew1 | refine below_set ?_ GE269.out) | exact HB.out))); (case side2 => exact HC2.out); rintro e w19 ⟨v271, rfl, ho0, hb⟩; refine ⟨_, rfl, ?_⟩; have n0_ := Aside0.mk (Kd.R_below (by (with_reducible repeat (first | apply Kd.R_alloc | apply Kd.R_drewN | apply Kd.R_drew)); exact (Kd.R_mono (Kd.R_far (p := ⟨gb269, 1, none⟩) (Kd.R_far (p := ⟨gb269, 0, none⟩) (Kd.R_types HO267.out BK269.out (by decide)) (fun _ hk => hk.2) (.slice Ao17 t265.length co17)) (fun _ hk => hk.2) (.int .i64 t268)) (fun _ h_ => h_.1))) hb); have n1_ := Aside0.mk (Kd.R_lower ho0 (below_size (by repeat (first | (with_reducible first | exact HB.out | apply below_alloc | apply pw_below_drewN | apply below_drew1 | refine below_set ?_ GE269.out) | exact HB.out)))); have n2_ := Aside0.mk (blk_below (g := gb269) (o := .cells #[.slice Ao17 t265.length co17, .int .i64 t268] 26 (0, 0)) (by (with_reducible repeat (first | refine blk_drewN ?_ _ | refine blk_drew ?_ | refine blk_alloc ?_ _)); refine blk_put (cs := #[.slice Ao17 t265.length co17, .int .i64 0]) ?_ 1 _ rfl; (with_reducible repeat (first | refine blk_drewN ?_ _ | refine blk_drew ?_ | refine blk_alloc ?_ _)); refine blk_put (cs := #[.slice none 0 0, .int .i64 0]) ?_ 0 _ rfl; (with_reducible repeat (first | refine blk_drewN ?_ _ | refine blk_drew ?_ | refine blk_alloc ?_ _)); exact BK269.out) hb); have n3_ := Aside0.mk (below_step (by repeat (first | (with_reducible first | exact HB.out | apply below_alloc | apply pw_below_drewN | apply below_drew1 | refine below_set ?_ GE269.out) | exact HB.out)) hb); clear HO267; clear BK269; clear HB; have HO267 := n0_; have HO272 := n1_; have BK269 := n2_; have HB := n3_; clear n0_ n1_ n2_ n3_; (try clear hb); (try clear hb2); (try clear hk); (try clear hi); (try clear ho0); have hcz20_0 : w19.cell? ⟨gb269, 0, none⟩ = some (.slice Ao17 t265.length co17) := (blk_cell BK269.out 0).trans rfl; have hcz20_1 : w19.cell? ⟨gb269, 1, none⟩ = some (.int .i64 t268) := (blk_cell BK269.out 1).trans rfl; have hfz20_0 := blk_frozen BK269.out 0; have hfz20_1 := blk_frozen BK269.out 1; obtain ⟨Ao21, co21, eo21⟩ := Kd.R_slice HO272.out; subst eo21) | ((with_reducible refine gate_callee (f := 16) rfl ?_); refine goesL_ (some 34) rfl rfl Try.func16 (by kernel_rfl) rfl #[.agg #[.slice Ao17 t265.length co17, .int .i64 t268], .slice Ao21 t270.length co21] rfl (by (try simp only [List.map_toArray, List.map_cons, List.map_nil]); first | done | rfl | (simp only [List.length_drop, List.length_take]; rfl)) ?_; (with_reducible refine (recovery_Plan.calls _ _ t265 t268 _ _ t270 t273 t276 _ ?side1 ?side2 ?side3 ?side4 A12.out).mono ?_); (case side1 => repeat (first | exact (Kd.R_reads' HO267.out).2.2 | (with_reducible refine Kd.C_alloc ?_ _) | (with_reducible refine Kd.C_drewN ?_ _) | (with_reducible refine Kd.C_drew ?_))); (case side2 => exact (Kd.R_reads' HO267.out).2.1); (case side3 => repeat (first | exact (Kd.R_reads' HO272.out).2.2 | (with_reducible refine Kd.C_alloc ?_ _) | (with_reducible refine Kd.C_drewN ?_ _) | (with_reducible refine Kd.C_drew ?_))); (case side4 => exact (Kd.R_reads' HO272.out).2.1); rintro e w22 ⟨v274, rfl, ho0, hb⟩; refine ⟨_, rfl, ?_⟩; have n0_ := Aside0.mk (Kd.R_below (by (with_reducible repeat (first | apply Kd.R_alloc | apply Kd.R_drewN | apply Kd.R_drew)); exact HO267.out) hb); have n1_ := Aside0.mk (Kd.R_below (by (with_reducible repeat (first | apply Kd.R_alloc | apply Kd.R_drewN | apply Kd.R_drew)); exact HO272.out) hb); have n2_ := Aside0.mk (Kd.R_lower ho0 (below_size (by repeat (first | (with_reducible first | exact HB.out | apply below_alloc | apply pw_below_drewN | apply below_drew1 | refine below_set ?_ GE269.out) | exact HB.out)))); have n3_ := Aside0.mk (blk_below (g := gb269) (o := .cells #[.slice Ao17 t265.length co17, .int .i64 t268] 26 (0, 0)) (by (with_reducible repeat (first | refine blk_drewN ?_ _ | refine blk_drew ?_ | refine blk_alloc ?_ _)); exact BK269.out) hb); have n4_ := Aside0.mk (below_step (by repeat (first | (with_reducible first | exact HB.out | apply below_alloc | apply pw_below_drewN | apply below_drew1 | refine below_set ?_ GE269.out) | exact HB.out)) hb); clear HO267; clear HO272; clear BK269; clear HB; have HO267 := n0_; have HO272 := n1_; have HO275 := n2_; have BK269 := n3_; have HB := n4_; clear n0_ n1_ n2_ n3_ n4_; (try clear hb); (try clear hb2); (try clear hk); (try clear hi); (try clear ho0)))
  (try simp only [Act.put, List.setIfInBounds_toArray, List.set_cons_zero, List.set_cons_succ])
  go_cut [45] (fun v45 wc => ∃ (kq : Nat) (x45_12 : Bool), v45 = .bool x45_12 ∧ Aside0 (dialtonelaw34_RecoveryChecks.j0 kq a3 a4 a5 a6 t270 t273 x45_12 t265 t268 = some r) ∧ Aside0 (kq ≤ k) ∧ Aside0 (Kd.R k60 60 wc w.heap.size (fun _ => True) (.slice Ao21 t270.length co21) t270) ∧ Aside0 (Kd.R k39 39 wc w.heap.size (fun _ => True) v274 t273) ∧ Aside0 (Kd.R k67 67 wc w.heap.size (fun _ => True) (.slice Ao17 t265.length co17) t265) ∧ Aside0 (wc.heap[gb269]? = some (.cells #[(.slice Ao17 t265.length co17), .int .i64 t268] 26 (0, 0))) ∧ Aside0 (Below w.heap.size w wc))
  case first =>
   have H := HC13.out
   clear HC13
   by_cases c23 : t276 = 0
   ·
    rw [if_pos c23] at H
    have c23b0 : (t276 == 0) = true := beq_iff_eq.mpr c23
    have c23b1 : (t276 != 0) = false := bne_eq_false_iff_eq.mpr c23
    clear c23
    (first | rw [c23b0] | (simp only [i64_w, i32_w]; rw [c23b0]) | skip)
    replace H := Option.bind_eq_some_iff.mp H
    obtain ⟨t277, A240, H⟩ := H
    replace H : (dialtonelaw34_RecoveryChecks.j0 k a3 a4 a5 a6 t270 t273 (!t277) t265 t268) = some r := H
    have A24 := Aside0.mk A240
    clear A240
    have H' := Aside0.mk H
    clear H
    have hcz25_0 : w22.cell? ⟨gb269, 0, none⟩ = some (.slice Ao17 t265.length co17) := (blk_cell BK269.out 0).trans rfl
    have hcz25_1 : w22.cell? ⟨gb269, 1, none⟩ = some (.int .i64 t268) := (blk_cell BK269.out 1).trans rfl
    have hfz25_0 := blk_frozen BK269.out 0
    have hfz25_1 := blk_frozen BK269.out 1
    obtain ⟨Ao26, co26, eo26⟩ := Kd.R_slice HO275.out
    subst eo26
    go_wp2_with (first | (go_at_call 20; (with_reducible refine (recovery_Check.calls k _ _ t265 t268 _ _ t270 _ _ t273 t277 _ ?side1 ?side2 ?side3 ?side4 ?side5 ?side6 A24.out).mono ?_); (case side1 => repeat (first | exact (Kd.R_reads' HO267.out).2.2 | (with_reducible refine Kd.C_alloc ?_ _) | (with_reducible refine Kd.C_drewN ?_ _) | (with_reducible refine Kd.C_drew ?_))); (case side2 => exact (Kd.R_reads' HO267.out).2.1); (case side3 => repeat (first | exact (Kd.R_reads' HO272.out).2.2 | (with_reducible refine Kd.C_alloc ?_ _) | (with_reducible refine Kd.C_drewN ?_ _) | (with_reducible refine Kd.C_drew ?_))); (case side4 => exact (Kd.R_reads' HO272.out).2.1); (case side5 => repeat (first | exact (Kd.R_reads' HO275.out).2.2 | (with_reducible refine Kd.C_alloc ?_ _) | (with_reducible refine Kd.C_drewN ?_ _) | (with_reducible refine Kd.C_drew ?_))); (case side6 => exact (Kd.R_reads' HO275.out).2.1); rintro e w27 ⟨rfl, hb⟩; have n0_ := Aside0.mk (Kd.R_below (by (with_reducible repeat (first | apply Kd.R_alloc | apply Kd.R_drewN | apply Kd.R_drew)); exact HO267.out) hb); have n1_ := Aside0.mk (Kd.R_below (by (with_reducible repeat (first | apply Kd.R_alloc | apply Kd.R_drewN | apply Kd.R_drew)); exact HO272.out) hb); have n2_ := Aside0.mk (Kd.R_below (by (with_reducible repeat (first | apply Kd.R_alloc | apply Kd.R_drewN | apply Kd.R_drew)); exact HO275.out) hb); have n3_ := Aside0.mk (blk_below (g := gb269) (o := .cells #[.slice Ao17 t265.length co17, .int .i64 t268] 26 (0, 0)) (by (with_reducible repeat (first | refine blk_drewN ?_ _ | refine blk_drew ?_ | refine blk_alloc ?_ _)); exact BK269.out) hb); have n4_ := Aside0.mk (below_step (by repeat (first | (with_reducible first | exact HB.out | apply below_alloc | apply pw_below_drewN | apply below_drew1 | refine below_set ?_ GE269.out) | exact HB.out)) hb); clear HO267; clear HO272; clear HO275; clear BK269; clear HB; have HO267 := n0_; have HO272 := n1_; have HO275 := n2_; have BK269 := n3_; have HB := n4_; clear n0_ n1_ n2_ n3_ n4_; (try clear hb); (try clear hb2); (try clear hk); (try clear hi)))
    go_meet
    case rel => exact ⟨_, (!t277), (by first | rfl | (simp; done) | (simp [*]; done)), H', ⟨by first | omega | exact Nat.le_refl _⟩, ⟨by (with_reducible repeat (first | apply Kd.R_alloc | apply Kd.R_drewN | apply Kd.R_drew)); exact HO272.out⟩, ⟨by (with_reducible repeat (first | apply Kd.R_alloc | apply Kd.R_drewN | apply Kd.R_drew)); exact HO275.out⟩, ⟨by (with_reducible repeat (first | apply Kd.R_alloc | apply Kd.R_drewN | apply Kd.R_drew)); exact HO267.out⟩, ⟨by (with_reducible repeat (first | refine blk_drewN ?_ _ | refine blk_drew ?_ | refine blk_alloc ?_ _)); exact BK269.out⟩, ⟨by repeat (first | (with_reducible first | exact HB.out | apply below_alloc | apply pw_below_drewN | apply below_drew1 | refine below_set ?_ GE269.out) | exact HB.out)⟩⟩
   ·
    rw [if_neg c23] at H
    have c23b0 : (t276 == 0) = false := beq_eq_false_iff_ne.mpr c23
    have c23b1 : (t276 != 0) = true := bne_iff_ne.mpr c23
    (first | rw [c23b0] | (simp only [i64_w, i32_w]; rw [c23b0]) | skip)
    have H' := Aside0.mk H
    clear H
    go_wp2
    go_meet
    case rel => exact ⟨_, (true), (by first | rfl | (simp; done) | (simp [*]; done)), H', ⟨by first | omega | exact Nat.le_refl _⟩, ⟨by (with_reducible repeat (first | apply Kd.R_alloc | apply Kd.R_drewN | apply Kd.R_drew)); exact HO272.out⟩, ⟨by (with_reducible repeat (first | apply Kd.R_alloc | apply Kd.R_drewN | apply Kd.R_drew)); exact HO275.out⟩, ⟨by (with_reducible repeat (first | apply Kd.R_alloc | apply Kd.R_drewN | apply Kd.R_drew)); exact HO267.out⟩, ⟨by (with_reducible repeat (first | refine blk_drewN ?_ _ | refine blk_drew ?_ | refine blk_alloc ?_ _)); exact BK269.out⟩, ⟨by repeat (first | (with_reducible first | exact HB.out | apply below_alloc | apply pw_below_drewN | apply below_drew1 | refine below_set ?_ GE269.out) | exact HB.out)⟩⟩
  case rest =>
   clear HC13
   try clear c1
   try clear c2
   try clear p2
   try clear c4
   try clear c9
   try clear c13
   try clear c14
   try clear c15
   try clear c16
   try clear c23
   try clear c23b0
   try clear c23b1
   try clear hcz18_0
   try clear hcz18_1
   try clear hcz20_0
   try clear hcz20_1
   try clear hcz25_0
   try clear hcz25_1
   try clear hfz18_0
   try clear hfz18_1
   try clear hfz20_0
   try clear hfz20_1
   try clear hfz25_0
   try clear hfz25_1
   obtain ⟨kq, x45_12, rfl, HA, HJ12, HO_17, HO_18, HO_270000, BK269, HB⟩ := hcut
   cases kq with
   | zero => exact absurd HA.out (by simp [dialtonelaw34_RecoveryChecks.j0])
   | succ kj12 =>
    have H := HA.out
    clear HA
    simp only [dialtonelaw34_RecoveryChecks.j0] at H
    by_cases c28 : x45_12 = true
    ·
     subst c28
     have H1 : (none) = some r := by rw [if_pos rfl] at H; exact H
     clear H
     have H := H1
     clear H1
     exact absurd H (by simp)
    ·
     replace c28 := Bool.eq_false_iff.mpr c28
     subst c28
     have H1 : ((some (([] : List (S39)) : List (S39))).bind fun y278 => (if y278.length + t273.length < 5864062014805 then ((some (y278 ++ t273 : List (S39))).bind fun y281 => (if (y281.length : Int) = 0 then ((recovery_Check.f kj12 t265 t268 t270 (([(⟨0, 0, 0⟩ : S39)] : List (S39)))).bind fun t287 => (some (!t287))) else ((dialtonelaw34_pick.f a3 (y281.length : Int)).bind fun t288 => ((dialtonelaw34_pick.f a4 (y281.length : Int)).bind fun t289 => ((dialtonelaw34_pick.f a5 5).bind fun t290 => (if t290 = 0 then (if 0 ≤ t288 then (if t288 < (y281.length : Int) then ((dialtonelaw34_pick.f a6 3).bind fun t292 => (dialtonelaw34_RecoveryChecks.j1 kj12 a5 t270 (y281.set (t288 : Int).toNat (⟨(rd_T39 y281 t288).f0, (rd_T39 y281 t288).f1, wrap64 ((wrap64 (((rd_T39 y281 t288).f2) + 1)) + t292)⟩ : S39)) t288 t289 t265 t268)) else (none)) else (none)) else (if t290 = 1 then (if 0 ≤ t288 then (if t288 < (y281.length : Int) then (dialtonelaw34_RecoveryChecks.j1 kj12 a5 t270 (y281.set (t288 : Int).toNat (⟨(rd_T39 y281 t288).f0, wrap64 (((rd_T39 y281 t288).f1) - 1), (rd_T39 y281 t288).f2⟩ : S39)) t288 t289 t265 t268) else (none)) else (none)) else (if t290 = 2 then (if 0 ≤ t289 then (if t289 < (y281.length : Int) then (if 0 ≤ t288 then (if t288 < (y281.length : Int) then (dialtonelaw34_RecoveryChecks.j1 kj12 a5 t270 ((y281.set (t288 : Int).toNat (⟨(rd_T39 y281 t289).f0, (rd_T39 y281 t289).f1, (rd_T39 y281 t289).f2⟩ : S39)).set (t289 : Int).toNat (⟨(rd_T39 y281 t288).f0, (rd_T39 y281 t288).f1, (rd_T39 y281 t288).f2⟩ : S39)) t288 t289 t265 t268) else (none)) else (none)) else (none)) else (none)) else (if t290 = 3 then (if 0 ≤ t288 then (if t288 ≤ (y281.length : Int) then (if 0 ≤ (wrap64 (t288 + 1)) then (if (wrap64 (t288 + 1)) ≤ (y281.length : Int) then (dialtonelaw34_RecoveryChecks.j1 kj12 a5 t270 (y281.eraseIdx (t288 : Int).toNat) t288 t289 t265 t268) else (none)) else (none)) else (none)) else (none)) else (if 0 ≤ t288 then (if t288 < (y281.length : Int) then (if y281.length < 5864062014805 then (dialtonelaw34_RecoveryChecks.j1 kj12 a5 t270 (y281 ++ [(⟨(rd_T39 y281 t288).f0, (rd_T39 y281 t288).f1, (rd_T39 y281 t288).f2⟩ : S39)]) t288 t289 t265 t268) else (none)) else (none)) else (none))))))))))) else (none))) = some r := by rw [if_neg (show ¬ (false = true) by decide)] at H; exact H
     clear H
     have H := H1
     clear H1
     obtain ⟨y278, hy278⟩ : ∃ y_ : List (S39), y_ = (([] : List (S39))) := ⟨_, rfl⟩
     replace H : (if y278.length + t273.length < 5864062014805 then ((some (y278 ++ t273 : List (S39))).bind fun y281 => (if (y281.length : Int) = 0 then ((recovery_Check.f kj12 t265 t268 t270 (([(⟨0, 0, 0⟩ : S39)] : List (S39)))).bind fun t287 => (some (!t287))) else ((dialtonelaw34_pick.f a3 (y281.length : Int)).bind fun t288 => ((dialtonelaw34_pick.f a4 (y281.length : Int)).bind fun t289 => ((dialtonelaw34_pick.f a5 5).bind fun t290 => (if t290 = 0 then (if 0 ≤ t288 then (if t288 < (y281.length : Int) then ((dialtonelaw34_pick.f a6 3).bind fun t292 => (dialtonelaw34_RecoveryChecks.j1 kj12 a5 t270 (y281.set (t288 : Int).toNat (⟨(rd_T39 y281 t288).f0, (rd_T39 y281 t288).f1, wrap64 ((wrap64 (((rd_T39 y281 t288).f2) + 1)) + t292)⟩ : S39)) t288 t289 t265 t268)) else (none)) else (none)) else (if t290 = 1 then (if 0 ≤ t288 then (if t288 < (y281.length : Int) then (dialtonelaw34_RecoveryChecks.j1 kj12 a5 t270 (y281.set (t288 : Int).toNat (⟨(rd_T39 y281 t288).f0, wrap64 (((rd_T39 y281 t288).f1) - 1), (rd_T39 y281 t288).f2⟩ : S39)) t288 t289 t265 t268) else (none)) else (none)) else (if t290 = 2 then (if 0 ≤ t289 then (if t289 < (y281.length : Int) then (if 0 ≤ t288 then (if t288 < (y281.length : Int) then (dialtonelaw34_RecoveryChecks.j1 kj12 a5 t270 ((y281.set (t288 : Int).toNat (⟨(rd_T39 y281 t289).f0, (rd_T39 y281 t289).f1, (rd_T39 y281 t289).f2⟩ : S39)).set (t289 : Int).toNat (⟨(rd_T39 y281 t288).f0, (rd_T39 y281 t288).f1, (rd_T39 y281 t288).f2⟩ : S39)) t288 t289 t265 t268) else (none)) else (none)) else (none)) else (none)) else (if t290 = 3 then (if 0 ≤ t288 then (if t288 ≤ (y281.length : Int) then (if 0 ≤ (wrap64 (t288 + 1)) then (if (wrap64 (t288 + 1)) ≤ (y281.length : Int) then (dialtonelaw34_RecoveryChecks.j1 kj12 a5 t270 (y281.eraseIdx (t288 : Int).toNat) t288 t289 t265 t268) else (none)) else (none)) else (none)) else (none)) else (if 0 ≤ t288 then (if t288 < (y281.length : Int) then (if y281.length < 5864062014805 then (dialtonelaw34_RecoveryChecks.j1 kj12 a5 t270 (y281 ++ [(⟨(rd_T39 y281 t288).f0, (rd_T39 y281 t288).f1, (rd_T39 y281 t288).f2⟩ : S39)]) t288 t289 t265 t268) else (none)) else (none)) else (none))))))))))) else (none)) = some r := by first | (rw [hy278]; with_reducible exact H) | (have H2_ := (Option.bind_some _ _).symm.trans H; rw [hy278]; with_reducible exact H2_) | (have H2_ := (Option.bind_some _ _).symm.trans H; with_reducible exact H2_) | with_reducible exact H | (rw [hy278]; exact H) | exact H
     have Ny278 := Aside0.mk hy278
     clear hy278
     by_cases c29 : y278.length + t273.length < 5864062014805
     ·
      rw [if_pos c29] at H
      have LMc29 := Aside0.mk c29
      clear c29
      obtain ⟨y281, hy281⟩ : ∃ y_ : List (S39), y_ = (y278 ++ t273) := ⟨_, rfl⟩
      replace H : (if (y281.length : Int) = 0 then ((recovery_Check.f kj12 t265 t268 t270 (([(⟨0, 0, 0⟩ : S39)] : List (S39)))).bind fun t287 => (some (!t287))) else ((dialtonelaw34_pick.f a3 (y281.length : Int)).bind fun t288 => ((dialtonelaw34_pick.f a4 (y281.length : Int)).bind fun t289 => ((dialtonelaw34_pick.f a5 5).bind fun t290 => (if t290 = 0 then (if 0 ≤ t288 then (if t288 < (y281.length : Int) then ((dialtonelaw34_pick.f a6 3).bind fun t292 => (dialtonelaw34_RecoveryChecks.j1 kj12 a5 t270 (y281.set (t288 : Int).toNat (⟨(rd_T39 y281 t288).f0, (rd_T39 y281 t288).f1, wrap64 ((wrap64 (((rd_T39 y281 t288).f2) + 1)) + t292)⟩ : S39)) t288 t289 t265 t268)) else (none)) else (none)) else (if t290 = 1 then (if 0 ≤ t288 then (if t288 < (y281.length : Int) then (dialtonelaw34_RecoveryChecks.j1 kj12 a5 t270 (y281.set (t288 : Int).toNat (⟨(rd_T39 y281 t288).f0, wrap64 (((rd_T39 y281 t288).f1) - 1), (rd_T39 y281 t288).f2⟩ : S39)) t288 t289 t265 t268) else (none)) else (none)) else (if t290 = 2 then (if 0 ≤ t289 then (if t289 < (y281.length : Int) then (if 0 ≤ t288 then (if t288 < (y281.length : Int) then (dialtonelaw34_RecoveryChecks.j1 kj12 a5 t270 ((y281.set (t288 : Int).toNat (⟨(rd_T39 y281 t289).f0, (rd_T39 y281 t289).f1, (rd_T39 y281 t289).f2⟩ : S39)).set (t289 : Int).toNat (⟨(rd_T39 y281 t288).f0, (rd_T39 y281 t288).f1, (rd_T39 y281 t288).f2⟩ : S39)) t288 t289 t265 t268) else (none)) else (none)) else (none)) else (none)) else (if t290 = 3 then (if 0 ≤ t288 then (if t288 ≤ (y281.length : Int) then (if 0 ≤ (wrap64 (t288 + 1)) then (if (wrap64 (t288 + 1)) ≤ (y281.length : Int) then (dialtonelaw34_RecoveryChecks.j1 kj12 a5 t270 (y281.eraseIdx (t288 : Int).toNat) t288 t289 t265 t268) else (none)) else (none)) else (none)) else (none)) else (if 0 ≤ t288 then (if t288 < (y281.length : Int) then (if y281.length < 5864062014805 then (dialtonelaw34_RecoveryChecks.j1 kj12 a5 t270 (y281 ++ [(⟨(rd_T39 y281 t288).f0, (rd_T39 y281 t288).f1, (rd_T39 y281 t288).f2⟩ : S39)]) t288 t289 t265 t268) else (none)) else (none)) else (none)))))))))) = some r := by first | (rw [hy281]; with_reducible exact H) | (have H2_ := (Option.bind_some _ _).symm.trans H; rw [hy281]; with_reducible exact H2_) | (have H2_ := (Option.bind_some _ _).symm.trans H; with_reducible exact H2_) | with_reducible exact H | (rw [hy281]; exact H) | exact H
      have Ny281 := Aside0.mk hy281
      clear hy281
      by_cases c30 : (y281.length : Int) = 0
      ·
       rw [if_pos c30] at H
       have c30b0 : ((y281.length : Int) == 0) = true := beq_iff_eq.mpr c30
       have c30b1 : ((y281.length : Int) != 0) = false := bne_eq_false_iff_eq.mpr c30
       clear c30
       obtain ⟨y284, hy284⟩ : ∃ y_ : List (S39), y_ = (([(⟨0, 0, 0⟩ : S39)] : List (S39))) := ⟨_, rfl⟩
       replace H : ((recovery_Check.f kj12 t265 t268 t270 y284).bind fun t287 => (some (!t287))) = some r := by first | (rw [hy284]; with_reducible exact H) | (have H2_ := (Option.bind_some _ _).symm.trans H; rw [hy284]; with_reducible exact H2_) | (have H2_ := (Option.bind_some _ _).symm.trans H; with_reducible exact H2_) | with_reducible exact H | (rw [hy284]; exact H) | exact H
       have Ny284 := Aside0.mk hy284
       clear hy284
       replace H := Option.bind_eq_some_iff.mp H
       obtain ⟨t287, A310, H⟩ := H
       replace H : (some (!t287)) = some r := H
       have A31 := Aside0.mk A310
       clear A310
       obtain rfl := Option.some.inj H
       go_wp2_with (first | ((with_reducible refine gate_dst (N := 46) rfl ?_); refine Kd.R_lit k39 _ 39 ?hg (N := 46) ?hd (xs := ([] : List (S39))) (inner := []) (ok := fun _ => True) (okp := fun _ => True) ?hr ?hp (fun _ hk => hk) trivial (Below.refl _ _) (Nat.le_refl _) (by simp) ?_; (case hd => rfl); (case hg => rfl); (case hr => first | (go_simp; done) | (go_simp; rfl)); (case hp => exact (Reps.none _ _)); intro v279 w32 ho33 hb hg_ hnew_; clear hg_ hnew_; (first | rw [← Ny278.out] at ho33 | (simp only [Int.reduceToNat] at ho33; rw [← Ny278.out] at ho33)); have n0_ := Aside0.mk (Kd.R_below (by (with_reducible repeat (first | apply Kd.R_alloc | apply Kd.R_drewN | apply Kd.R_drew)); exact HO_17.out) hb); have n1_ := Aside0.mk (Kd.R_elder' (by (with_reducible repeat (first | apply Kd.R_alloc | apply Kd.R_drewN | apply Kd.R_drew)); exact HO_18.out) (Kd.R_base ho33) hb); have n2_ := Aside0.mk (Kd.R_below (by (with_reducible repeat (first | apply Kd.R_alloc | apply Kd.R_drewN | apply Kd.R_drew)); exact HO_270000.out) hb); have n3_ := Aside0.mk (Kd.R_lower (Kd.R_new' ho33 (Kd.R_lt (by (with_reducible repeat (first | apply Kd.R_alloc | apply Kd.R_drewN | apply Kd.R_drew)); exact HO_18.out))) (below_size (by repeat (first | (with_reducible first | exact HB.out | apply below_alloc | apply pw_below_drewN | apply below_drew1 | refine below_set ?_ GE269.out) | exact HB.out)))); have n4_ := Aside0.mk (blk_below (g := gb269) (o := .cells #[.slice Ao17 t265.length co17, .int .i64 t268] 26 (0, 0)) (by (with_reducible repeat (first | refine blk_drewN ?_ _ | refine blk_drew ?_ | refine blk_alloc ?_ _)); exact BK269.out) hb); have n5_ := Aside0.mk (below_step (by repeat (first | (with_reducible first | exact HB.out | apply below_alloc | apply pw_below_drewN | apply below_drew1 | refine below_set ?_ GE269.out) | exact HB.out)) hb); clear HO_17; clear HO_18; clear HO_270000; clear BK269; clear HB; have HO_17 := n0_; have HO_18 := n1_; have HO_270000 := n2_; have HO280 := n3_; have BK269 := n4_; have HB := n5_; clear n0_ n1_ n2_ n3_ n4_ n5_; clear hb ho33; obtain ⟨Ao35, co35, eo35⟩ := Kd.R_slice HO_18.out; subst eo35) | ((with_reducible refine gate_builtin (b := .append) (xs := #[.tmp 46, .tmp 47]) rfl ?_); at_builtin; refine Kd.R_append_rows k39 (w0 := w) w.heap.size rfl (.tmp 46) (.tmp 47) 30 39 (.agg #[(.int .i64 0), (.int .i64 0), (.int .i64 0)]) 24 rfl Try.underlying30 info39 rfl (by decide) (by omega) v279 y278 t273 _ _ _ (fun k_ => some k_ ≠ (.slice Ao35 t273.length co35 : Value).ownBlock) (fun _ => False) rfl rfl ?aO ?aR (fun _ _ h => h) (fun _ h => h.elim) ?aF ?aB ?aS ?aL ?_; (case aR => repeat (first | exact (Kd.R_reads' HO_18.out).2.2 | (with_reducible refine Kd.C_alloc ?_ _) | (with_reducible refine Kd.C_drewN ?_ _) | (with_reducible refine Kd.C_drew ?_))); (case aB => exact (by repeat (first | (with_reducible first | exact HB.out | apply below_alloc | apply pw_below_drewN | apply below_drew1 | refine below_set ?_ GE269.out) | exact HB.out))); (case aF => exact (fun k_ hk => Kd.fresh' (Kd.R_lt (by (with_reducible repeat (first | apply Kd.R_alloc | apply Kd.R_drewN | apply Kd.R_drew)); exact HO_18.out)) k_ hk)); (case aO => exact (by (with_reducible repeat (first | apply Kd.R_alloc | apply Kd.R_drewN | apply Kd.R_drew)); exact Kd.R_mono HO280.out (fun _ hk => hk.2))); (case aS => exact (below_size (by repeat (first | (with_reducible first | exact HB.out | apply below_alloc | apply pw_below_drewN | apply below_drew1 | refine below_set ?_ GE269.out) | exact HB.out)))); (case aL => have := LMc29.out; omega); intro v282 w34 ho hb hg hat; rw [← Ny281.out] at ho; have n0_ := Aside0.mk (Kd.R_over' (by (with_reducible repeat (first | apply Kd.R_alloc | apply Kd.R_drewN | apply Kd.R_drew)); exact HO_17.out) (Kd.R_typed (by (with_reducible repeat (first | apply Kd.R_alloc | apply Kd.R_drewN | apply Kd.R_drew)); exact HO280.out)) (by decide) hg); have n1_ := Aside0.mk (Kd.R_after (ok := (fun _ => True)) (by (with_reducible repeat (first | apply Kd.R_alloc | apply Kd.R_drewN | apply Kd.R_drew)); exact HO_18.out) hg hat); have n2_ := Aside0.mk (Kd.R_over' (by (with_reducible repeat (first | apply Kd.R_alloc | apply Kd.R_drewN | apply Kd.R_drew)); exact HO_270000.out) (Kd.R_typed (by (with_reducible repeat (first | apply Kd.R_alloc | apply Kd.R_drewN | apply Kd.R_drew)); exact HO280.out)) (by decide) hg); have n3_ := Aside0.mk (blk_grown (g := gb269) (o := .cells #[.slice Ao17 t265.length co17, .int .i64 t268] 26 (0, 0)) (by (with_reducible repeat (first | refine blk_drewN ?_ _ | refine blk_drew ?_ | refine blk_alloc ?_ _)); exact BK269.out) hg (Kd.R_ne HO280.out BK269.out (by decide))); have n4_ := Aside0.mk (hb); have n5_ := Aside0.mk (ho); clear HO_17; clear HO_18; clear HO_270000; clear BK269; clear HB; clear HO280; have HO_17 := n0_; have HO_18 := n1_; have HO_270000 := n2_; have BK269 := n3_; have HB := n4_; have HO283 := n5_; clear n0_ n1_ n2_ n3_ n4_ n5_; clear ho hb hg hat; obtain ⟨Ao36, co36, eo36⟩ := Kd.R_slice HO283.out; subst eo36; have hcz37_0 : w34.cell? ⟨gb269, 0, none⟩ = some (.slice Ao17 t265.length co17) := (blk_cell BK269.out 0).trans rfl; have hcz37_1 : w34.cell? ⟨gb269, 1, none⟩ = some (.int .i64 t268) := (blk_cell BK269.out 1).trans rfl; have hfz37_0 := blk_frozen BK269.out 0; have hfz37_1 := blk_frozen BK269.out 1) | ((with_reducible refine gate_dst (N := 55) rfl ?_); refine Kd.R_lit k39 _ 39 ?hg (N := 55) ?hd (xs := ([(⟨0, 0, 0⟩ : S39)] : List (S39))) (inner := [.int .i64 0, .int .i64 0, .int .i64 0]) (ok := fun _ => True) (okp := fun _ => True) ?hr ?hp (fun _ hk => hk) trivial (Below.refl _ _) (Nat.le_refl _) (by simp) ?_; (case hd => rfl); (case hg => rfl); (case hr => first | (go_simp; done) | (go_simp; rfl)); (case hp => exact (Reps.c3 (show Kd.M k39 _ _ _ (⟨0, 0, 0⟩ : S39) [.int .i64 0, .int .i64 0, .int .i64 0] from (k39_mkM _ _ _ (⟨0, 0, 0⟩ : S39) )) (Reps.none _ _))); intro v285 w38 ho39 hb hg_ hnew_; clear hg_ hnew_; (first | rw [← Ny284.out] at ho39 | (simp only [Int.reduceToNat] at ho39; rw [← Ny284.out] at ho39)); have n0_ := Aside0.mk (Kd.R_below (by (with_reducible repeat (first | apply Kd.R_alloc | apply Kd.R_drewN | apply Kd.R_drew)); exact HO_17.out) hb); have n1_ := Aside0.mk (Kd.R_elder' (by (with_reducible repeat (first | apply Kd.R_alloc | apply Kd.R_drewN | apply Kd.R_drew)); exact HO_18.out) (Kd.R_base ho39) hb); have n2_ := Aside0.mk (Kd.R_below (by (with_reducible repeat (first | apply Kd.R_alloc | apply Kd.R_drewN | apply Kd.R_drew)); exact HO_270000.out) hb); have n3_ := Aside0.mk (Kd.R_elder' (by (with_reducible repeat (first | apply Kd.R_alloc | apply Kd.R_drewN | apply Kd.R_drew)); exact HO283.out) (Kd.R_base ho39) hb); have n4_ := Aside0.mk (Kd.R_lower (Kd.R_new' (Kd.R_new' ho39 (Kd.R_lt (by (with_reducible repeat (first | apply Kd.R_alloc | apply Kd.R_drewN | apply Kd.R_drew)); exact HO_18.out))) (Kd.R_lt (by (with_reducible repeat (first | apply Kd.R_alloc | apply Kd.R_drewN | apply Kd.R_drew)); exact HO283.out))) (below_size (by repeat (first | (with_reducible first | exact HB.out | apply below_alloc | apply pw_below_drewN | apply below_drew1 | refine below_set ?_ GE269.out) | exact HB.out)))); have n5_ := Aside0.mk (blk_below (g := gb269) (o := .cells #[.slice Ao17 t265.length co17, .int .i64 t268] 26 (0, 0)) (by (with_reducible repeat (first | refine blk_drewN ?_ _ | refine blk_drew ?_ | refine blk_alloc ?_ _)); exact BK269.out) hb); have n6_ := Aside0.mk (below_step (by repeat (first | (with_reducible first | exact HB.out | apply below_alloc | apply pw_below_drewN | apply below_drew1 | refine below_set ?_ GE269.out) | exact HB.out)) hb); clear HO_17; clear HO_18; clear HO_270000; clear HO283; clear BK269; clear HB; have HO_17 := n0_; have HO_18 := n1_; have HO_270000 := n2_; have HO283 := n3_; have HO286 := n4_; have BK269 := n5_; have HB := n6_; clear n0_ n1_ n2_ n3_ n4_ n5_ n6_; clear hb ho39; obtain ⟨Ao40, co40, eo40⟩ := Kd.R_slice HO286.out; subst eo40) | ((with_reducible refine gate_callee (f := 20) rfl ?_); refine goesL_ (some 56) rfl rfl Try.func20 (by kernel_rfl) rfl #[.agg #[.slice Ao17 t265.length co17, .int .i64 t268], .slice Ao21 t270.length co21, .slice Ao40 y284.length co40] rfl (by (try simp only [List.map_toArray, List.map_cons, List.map_nil]); first | done | rfl | (simp only [List.length_drop, List.length_take]; rfl)) ?_; (with_reducible refine (recovery_Check.calls kj12 _ _ t265 t268 _ _ t270 _ _ y284 t287 _ ?side1 ?side2 ?side3 ?side4 ?side5 ?side6 A31.out).mono ?_); (case side1 => repeat (first | exact (Kd.R_reads' HO_270000.out).2.2 | (with_reducible refine Kd.C_alloc ?_ _) | (with_reducible refine Kd.C_drewN ?_ _) | (with_reducible refine Kd.C_drew ?_))); (case side2 => exact (Kd.R_reads' HO_270000.out).2.1); (case side3 => repeat (first | exact (Kd.R_reads' HO_17.out).2.2 | (with_reducible refine Kd.C_alloc ?_ _) | (with_reducible refine Kd.C_drewN ?_ _) | (with_reducible refine Kd.C_drew ?_))); (case side4 => exact (Kd.R_reads' HO_17.out).2.1); (case side5 => repeat (first | exact (Kd.R_reads' HO286.out).2.2 | (with_reducible refine Kd.C_alloc ?_ _) | (with_reducible refine Kd.C_drewN ?_ _) | (with_reducible refine Kd.C_drew ?_))); (case side6 => exact (Kd.R_reads' HO286.out).2.1); rintro e w41 ⟨rfl, hb⟩; refine ⟨_, rfl, ?_⟩; have n0_ := Aside0.mk (Kd.R_below (by (with_reducible repeat (first | apply Kd.R_alloc | apply Kd.R_drewN | apply Kd.R_drew)); exact HO_17.out) hb); have n1_ := Aside0.mk (Kd.R_below (by (with_reducible repeat (first | apply Kd.R_alloc | apply Kd.R_drewN | apply Kd.R_drew)); exact HO_18.out) hb); have n2_ := Aside0.mk (Kd.R_below (by (with_reducible repeat (first | apply Kd.R_alloc | apply Kd.R_drewN | apply Kd.R_drew)); exact HO_270000.out) hb); have n3_ := Aside0.mk (Kd.R_below (by (with_reducible repeat (first | apply Kd.R_alloc | apply Kd.R_drewN | apply Kd.R_drew)); exact HO283.out) hb); have n4_ := Aside0.mk (Kd.R_below (by (with_reducible repeat (first | apply Kd.R_alloc | apply Kd.R_drewN | apply Kd.R_drew)); exact HO286.out) hb); have n5_ := Aside0.mk (blk_below (g := gb269) (o := .cells #[.slice Ao17 t265.length co17, .int .i64 t268] 26 (0, 0)) (by (with_reducible repeat (first | refine blk_drewN ?_ _ | refine blk_drew ?_ | refine blk_alloc ?_ _)); exact BK269.out) hb); have n6_ := Aside0.mk (below_step (by repeat (first | (with_reducible first | exact HB.out | apply below_alloc | apply pw_below_drewN | apply below_drew1 | refine below_set ?_ GE269.out) | exact HB.out)) hb); clear HO_17; clear HO_18; clear HO_270000; clear HO283; clear HO286; clear BK269; clear HB; have HO_17 := n0_; have HO_18 := n1_; have HO_270000 := n2_; have HO283 := n3_; have HO286 := n4_; have BK269 := n5_; have HB := n6_; clear n0_ n1_ n2_ n3_ n4_ n5_ n6_; (try clear hb); (try clear hb2); (try clear hk); (try clear hi)))
       go_ret
       exact ⟨by first | rfl | (simp [errW_none, errW_some] <;> rfl) | (simp [*, errW_none, errW_some] <;> rfl), by repeat (first | (with_reducible first | exact HB.out | apply below_alloc | apply pw_below_drewN | apply below_drew1 | refine below_set ?_ GE269.out) | exact HB.out)⟩
      ·
       rw [if_neg c30] at H
       have c30b0 : ((y281.length : Int) == 0) = false := beq_eq_false_iff_ne.mpr c30
       have c30b1 : ((y281.length : Int) != 0) = true := bne_iff_ne.mpr c30
       have c30b2 : ¬ (y281 = []) := fun h_ => c30 (by rw [h_]; rfl)
       replace H := Option.bind_eq_some_iff.mp H
       obtain ⟨t288, A420, H⟩ := H
       replace H : ((dialtonelaw34_pick.f a4 (y281.length : Int)).bind fun t289 => ((dialtonelaw34_pick.f a5 5).bind fun t290 => (if t290 = 0 then (if 0 ≤ t288 then (if t288 < (y281.length : Int) then ((dialtonelaw34_pick.f a6 3).bind fun t292 => (dialtonelaw34_RecoveryChecks.j1 kj12 a5 t270 (y281.set (t288 : Int).toNat (⟨(rd_T39 y281 t288).f0, (rd_T39 y281 t288).f1, wrap64 ((wrap64 (((rd_T39 y281 t288).f2) + 1)) + t292)⟩ : S39)) t288 t289 t265 t268)) else (none)) else (none)) else (if t290 = 1 then (if 0 ≤ t288 then (if t288 < (y281.length : Int) then (dialtonelaw34_RecoveryChecks.j1 kj12 a5 t270 (y281.set (t288 : Int).toNat (⟨(rd_T39 y281 t288).f0, wrap64 (((rd_T39 y281 t288).f1) - 1), (rd_T39 y281 t288).f2⟩ : S39)) t288 t289 t265 t268) else (none)) else (none)) else (if t290 = 2 then (if 0 ≤ t289 then (if t289 < (y281.length : Int) then (if 0 ≤ t288 then (if t288 < (y281.length : Int) then (dialtonelaw34_RecoveryChecks.j1 kj12 a5 t270 ((y281.set (t288 : Int).toNat (⟨(rd_T39 y281 t289).f0, (rd_T39 y281 t289).f1, (rd_T39 y281 t289).f2⟩ : S39)).set (t289 : Int).toNat (⟨(rd_T39 y281 t288).f0, (rd_T39 y281 t288).f1, (rd_T39 y281 t288).f2⟩ : S39)) t288 t289 t265 t268) else (none)) else (none)) else (none)) else (none)) else (if t290 = 3 then (if 0 ≤ t288 then (if t288 ≤ (y281.length : Int) then (if 0 ≤ (wrap64 (t288 + 1)) then (if (wrap64 (t288 + 1)) ≤ (y281.length : Int) then (dialtonelaw34_RecoveryChecks.j1 kj12 a5 t270 (y281.eraseIdx (t288 : Int).toNat) t288 t289 t265 t268) else (none)) else (none)) else (none)) else (none)) else (if 0 ≤ t288 then (if t288 < (y281.length : Int) then (if y281.length < 5864062014805 then (dialtonelaw34_RecoveryChecks.j1 kj12 a5 t270 (y281 ++ [(⟨(rd_T39 y281 t288).f0, (rd_T39 y281 t288).f1, (rd_T39 y281 t288).f2⟩ : S39)]) t288 t289 t265 t268) else (none)) else (none)) else (none)))))))) = some r := H
       have A42 := Aside0.mk A420
       clear A420
       replace H := Option.bind_eq_some_iff.mp H
       obtain ⟨t289, A430, H⟩ := H
       replace H : ((dialtonelaw34_pick.f a5 5).bind fun t290 => (if t290 = 0 then (if 0 ≤ t288 then (if t288 < (y281.length : Int) then ((dialtonelaw34_pick.f a6 3).bind fun t292 => (dialtonelaw34_RecoveryChecks.j1 kj12 a5 t270 (y281.set (t288 : Int).toNat (⟨(rd_T39 y281 t288).f0, (rd_T39 y281 t288).f1, wrap64 ((wrap64 (((rd_T39 y281 t288).f2) + 1)) + t292)⟩ : S39)) t288 t289 t265 t268)) else (none)) else (none)) else (if t290 = 1 then (if 0 ≤ t288 then (if t288 < (y281.length : Int) then (dialtonelaw34_RecoveryChecks.j1 kj12 a5 t270 (y281.set (t288 : Int).toNat (⟨(rd_T39 y281 t288).f0, wrap64 (((rd_T39 y281 t288).f1) - 1), (rd_T39 y281 t288).f2⟩ : S39)) t288 t289 t265 t268) else (none)) else (none)) else (if t290 = 2 then (if 0 ≤ t289 then (if t289 < (y281.length : Int) then (if 0 ≤ t288 then (if t288 < (y281.length : Int) then (dialtonelaw34_RecoveryChecks.j1 kj12 a5 t270 ((y281.set (t288 : Int).toNat (⟨(rd_T39 y281 t289).f0, (rd_T39 y281 t289).f1, (rd_T39 y281 t289).f2⟩ : S39)).set (t289 : Int).toNat (⟨(rd_T39 y281 t288).f0, (rd_T39 y281 t288).f1, (rd_T39 y281 t288).f2⟩ : S39)) t288 t289 t265 t268) else (none)) else (none)) else (none)) else (none)) else (if t290 = 3 then (if 0 ≤ t288 then (if t288 ≤ (y281.length : Int) then (if 0 ≤ (wrap64 (t288 + 1)) then (if (wrap64 (t288 + 1)) ≤ (y281.length : Int) then (dialtonelaw34_RecoveryChecks.j1 kj12 a5 t270 (y281.eraseIdx (t288 : Int).toNat) t288 t289 t265 t268) else (none)) else (none)) else (none)) else (none)) else (if 0 ≤ t288 then (if t288 < (y281.length : Int) then (if y281.length < 5864062014805 then (dialtonelaw34_RecoveryChecks.j1 kj12 a5 t270 (y281 ++ [(⟨(rd_T39 y281 t288).f0, (rd_T39 y281 t288).f1, (rd_T39 y281 t288).f2⟩ : S39)]) t288 t289 t265 t268) else (none)) else (none)) else (none))))))) = some r := H
       have A43 := Aside0.mk A430
       clear A430
       replace H := Option.bind_eq_some_iff.mp H
       obtain ⟨t290, A440, H⟩ := H
       replace H : (if t290 = 0 then (if 0 ≤ t288 then (if t288 < (y281.length : Int) then ((dialtonelaw34_pick.f a6 3).bind fun t292 => (dialtonelaw34_RecoveryChecks.j1 kj12 a5 t270 (y281.set (t288 : Int).toNat (⟨(rd_T39 y281 t288).f0, (rd_T39 y281 t288).f1, wrap64 ((wrap64 (((rd_T39 y281 t288).f2) + 1)) + t292)⟩ : S39)) t288 t289 t265 t268)) else (none)) else (none)) else (if t290 = 1 then (if 0 ≤ t288 then (if t288 < (y281.length : Int) then (dialtonelaw34_RecoveryChecks.j1 kj12 a5 t270 (y281.set (t288 : Int).toNat (⟨(rd_T39 y281 t288).f0, wrap64 (((rd_T39 y281 t288).f1) - 1), (rd_T39 y281 t288).f2⟩ : S39)) t288 t289 t265 t268) else (none)) else (none)) else (if t290 = 2 then (if 0 ≤ t289 then (if t289 < (y281.length : Int) then (if 0 ≤ t288 then (if t288 < (y281.length : Int) then (dialtonelaw34_RecoveryChecks.j1 kj12 a5 t270 ((y281.set (t288 : Int).toNat (⟨(rd_T39 y281 t289).f0, (rd_T39 y281 t289).f1, (rd_T39 y281 t289).f2⟩ : S39)).set (t289 : Int).toNat (⟨(rd_T39 y281 t288).f0, (rd_T39 y281 t288).f1, (rd_T39 y281 t288).f2⟩ : S39)) t288 t289 t265 t268) else (none)) else (none)) else (none)) else (none)) else (if t290 = 3 then (if 0 ≤ t288 then (if t288 ≤ (y281.length : Int) then (if 0 ≤ (wrap64 (t288 + 1)) then (if (wrap64 (t288 + 1)) ≤ (y281.length : Int) then (dialtonelaw34_RecoveryChecks.j1 kj12 a5 t270 (y281.eraseIdx (t288 : Int).toNat) t288 t289 t265 t268) else (none)) else (none)) else (none)) else (none)) else (if 0 ≤ t288 then (if t288 < (y281.length : Int) then (if y281.length < 5864062014805 then (dialtonelaw34_RecoveryChecks.j1 kj12 a5 t270 (y281 ++ [(⟨(rd_T39 y281 t288).f0, (rd_T39 y281 t288).f1, (rd_T39 y281 t288).f2⟩ : S39)]) t288 t289 t265 t268) else (none)) else (none)) else (none)))))) = some r := H
       have A44 := Aside0.mk A440
       clear A440
       have HC45 := Aside0.mk H
       clear H
       go_upto_block 0 with (first | ((with_reducible refine gate_dst (N := 46) rfl ?_); refine Kd.R_lit k39 _ 39 ?hg (N := 46) ?hd (xs := ([] : List (S39))) (inner := []) (ok := fun _ => True) (okp := fun _ => True) ?hr ?hp (fun _ hk => hk) trivial (Below.refl _ _) (Nat.le_refl _) (by simp) ?_; (case hd => rfl); (case hg => rfl); (case hr => first | (go_simp; done) | (go_simp; rfl)); (case hp => exact (Reps.none _ _)); intro v279 w46 ho47 hb hg_ hnew_; clear hg_ hnew_; (first | rw [← Ny278.out] at ho47 | (simp only [Int.reduceToNat] at ho47; rw [← Ny278.out] at ho47)); have n0_ := Aside0.mk (Kd.R_below (by (with_reducible repeat (first | apply Kd.R_alloc | apply Kd.R_drewN | apply Kd.R_drew)); exact HO_17.out) hb); have n1_ := Aside0.mk (Kd.R_elder' (by (with_reducible repeat (first | apply Kd.R_alloc | apply Kd.R_drewN | apply Kd.R_drew)); exact HO_18.out) (Kd.R_base ho47) hb); have n2_ := Aside0.mk (Kd.R_below (by (with_reducible repeat (first | apply Kd.R_alloc | apply Kd.R_drewN | apply Kd.R_drew)); exact HO_270000.out) hb); have n3_ := Aside0.mk (Kd.R_lower (Kd.R_new' ho47 (Kd.R_lt (by (with_reducible repeat (first | apply Kd.R_alloc | apply Kd.R_drewN | apply Kd.R_drew)); exact HO_18.out))) (below_size (by repeat (first | (with_reducible first | exact HB.out | apply below_alloc | apply pw_below_drewN | apply below_drew1 | refine below_set ?_ GE269.out) | exact HB.out)))); have n4_ := Aside0.mk (blk_below (g := gb269) (o := .cells #[.slice Ao17 t265.length co17, .int .i64 t268] 26 (0, 0)) (by (with_reducible repeat (first | refine blk_drewN ?_ _ | refine blk_drew ?_ | refine blk_alloc ?_ _)); exact BK269.out) hb); have n5_ := Aside0.mk (below_step (by repeat (first | (with_reducible first | exact HB.out | apply below_alloc | apply pw_below_drewN | apply below_drew1 | refine below_set ?_ GE269.out) | exact HB.out)) hb); clear HO_17; clear HO_18; clear HO_270000; clear BK269; clear HB; have HO_17 := n0_; have HO_18 := n1_; have HO_270000 := n2_; have HO280 := n3_; have BK269 := n4_; have HB := n5_; clear n0_ n1_ n2_ n3_ n4_ n5_; clear hb ho47; obtain ⟨Ao49, co49, eo49⟩ := Kd.R_slice HO_18.out; subst eo49) | ((with_reducible refine gate_builtin (b := .append) (xs := #[.tmp 46, .tmp 47]) rfl ?_); at_builtin; refine Kd.R_append_rows k39 (w0 := w) w.heap.size rfl (.tmp 46) (.tmp 47) 30 39 (.agg #[(.int .i64 0), (.int .i64 0), (.int .i64 0)]) 24 rfl Try.underlying30 info39 rfl (by decide) (by omega) v279 y278 t273 _ _ _ (fun k_ => some k_ ≠ (.slice Ao49 t273.length co49 : Value).ownBlock) (fun _ => False) rfl rfl ?aO ?aR (fun _ _ h => h) (fun _ h => h.elim) ?aF ?aB ?aS ?aL ?_; (case aR => repeat (first | exact (Kd.R_reads' HO_18.out).2.2 | (with_reducible refine Kd.C_alloc ?_ _) | (with_reducible refine Kd.C_drewN ?_ _) | (with_reducible refine Kd.C_drew ?_))); (case aB => exact (by repeat (first | (with_reducible first | exact HB.out | apply below_alloc | apply pw_below_drewN | apply below_drew1 | refine below_set ?_ GE269.out) | exact HB.out))); (case aF => exact (fun k_ hk => Kd.fresh' (Kd.R_lt (by (with_reducible repeat (first | apply Kd.R_alloc | apply Kd.R_drewN | apply Kd.R_drew)); exact HO_18.out)) k_ hk)); (case aO => exact (by (with_reducible repeat (first | apply Kd.R_alloc | apply Kd.R_drewN | apply Kd.R_drew)); exact Kd.R_mono HO280.out (fun _ hk => hk.2))); (case aS => exact (below_size (by repeat (first | (with_reducible first | exact HB.out | apply below_alloc | apply pw_below_drewN | apply below_drew1 | refine below_set ?_ GE269.out) | exact HB.out)))); (case aL => have := LMc29.out; omega); intro v282 w48 ho hb hg hat; rw [← Ny281.out] at ho; have n0_ := Aside0.mk (Kd.R_over' (by (with_reducible repeat (first | apply Kd.R_alloc | apply Kd.R_drewN | apply Kd.R_drew)); exact HO_17.out) (Kd.R_typed (by (with_reducible repeat (first | apply Kd.R_alloc | apply Kd.R_drewN | apply Kd.R_drew)); exact HO280.out)) (by decide) hg); have n1_ := Aside0.mk (Kd.R_after (ok := (fun _ => True)) (by (with_reducible repeat (first | apply Kd.R_alloc | apply Kd.R_drewN | apply Kd.R_drew)); exact HO_18.out) hg hat); have n2_ := Aside0.mk (Kd.R_over' (by (with_reducible repeat (first | apply Kd.R_alloc | apply Kd.R_drewN | apply Kd.R_drew)); exact HO_270000.out) (Kd.R_typed (by (with_reducible repeat (first | apply Kd.R_alloc | apply Kd.R_drewN | apply Kd.R_drew)); exact HO280.out)) (by decide) hg); have n3_ := Aside0.mk (blk_grown (g := gb269) (o := .cells #[.slice Ao17 t265.length co17, .int .i64 t268] 26 (0, 0)) (by (with_reducible repeat (first | refine blk_drewN ?_ _ | refine blk_drew ?_ | refine blk_alloc ?_ _)); exact BK269.out) hg (Kd.R_ne HO280.out BK269.out (by decide))); have n4_ := Aside0.mk (hb); have n5_ := Aside0.mk (ho); clear HO_17; clear HO_18; clear HO_270000; clear BK269; clear HB; clear HO280; have HO_17 := n0_; have HO_18 := n1_; have HO_270000 := n2_; have BK269 := n3_; have HB := n4_; have HO283 := n5_; clear n0_ n1_ n2_ n3_ n4_ n5_; clear ho hb hg hat; obtain ⟨Ao50, co50, eo50⟩ := Kd.R_slice HO283.out; subst eo50) | ((with_reducible refine gate_callee (f := 18) rfl ?_); refine goesL_ (some 61) rfl rfl Try.func18 (by kernel_rfl) rfl #[.int .i64 a3, .int .i64 (y281.length : Int)] rfl (by (try simp only [List.map_toArray, List.map_cons, List.map_nil]); first | done | rfl | (simp only [List.length_drop, List.length_take]; rfl)) ?_; (with_reducible refine (dialtonelaw34_pick.calls a3 (y281.length : Int) t288 _ A42.out).mono ?_); rintro e w51 ⟨rfl, hb⟩; refine ⟨_, rfl, ?_⟩; have n0_ := Aside0.mk (Kd.R_below (by (with_reducible repeat (first | apply Kd.R_alloc | apply Kd.R_drewN | apply Kd.R_drew)); exact HO_17.out) hb); have n1_ := Aside0.mk (Kd.R_below (by (with_reducible repeat (first | apply Kd.R_alloc | apply Kd.R_drewN | apply Kd.R_drew)); exact HO_18.out) hb); have n2_ := Aside0.mk (Kd.R_below (by (with_reducible repeat (first | apply Kd.R_alloc | apply Kd.R_drewN | apply Kd.R_drew)); exact HO_270000.out) hb); have n3_ := Aside0.mk (Kd.R_below (by (with_reducible repeat (first | apply Kd.R_alloc | apply Kd.R_drewN | apply Kd.R_drew)); exact HO283.out) hb); have n4_ := Aside0.mk (blk_below (g := gb269) (o := .cells #[.slice Ao17 t265.length co17, .int .i64 t268] 26 (0, 0)) (by (with_reducible repeat (first | refine blk_drewN ?_ _ | refine blk_drew ?_ | refine blk_alloc ?_ _)); exact BK269.out) hb); have n5_ := Aside0.mk (below_step (by repeat (first | (with_reducible first | exact HB.out | apply below_alloc | apply pw_below_drewN | apply below_drew1 | refine below_set ?_ GE269.out) | exact HB.out)) hb); clear HO_17; clear HO_18; clear HO_270000; clear HO283; clear BK269; clear HB; have HO_17 := n0_; have HO_18 := n1_; have HO_270000 := n2_; have HO283 := n3_; have BK269 := n4_; have HB := n5_; clear n0_ n1_ n2_ n3_ n4_ n5_; (try clear hb); (try clear hb2); (try clear hk); (try clear hi)) | ((with_reducible refine gate_callee (f := 18) rfl ?_); refine goesL_ (some 65) rfl rfl Try.func18 (by kernel_rfl) rfl #[.int .i64 a4, .int .i64 (y281.length : Int)] rfl (by (try simp only [List.map_toArray, List.map_cons, List.map_nil]); first | done | rfl | (simp only [List.length_drop, List.length_take]; rfl)) ?_; (with_reducible refine (dialtonelaw34_pick.calls a4 (y281.length : Int) t289 _ A43.out).mono ?_); rintro e w52 ⟨rfl, hb⟩; refine ⟨_, rfl, ?_⟩; have n0_ := Aside0.mk (Kd.R_below (by (with_reducible repeat (first | apply Kd.R_alloc | apply Kd.R_drewN | apply Kd.R_drew)); exact HO_17.out) hb); have n1_ := Aside0.mk (Kd.R_below (by (with_reducible repeat (first | apply Kd.R_alloc | apply Kd.R_drewN | apply Kd.R_drew)); exact HO_18.out) hb); have n2_ := Aside0.mk (Kd.R_below (by (with_reducible repeat (first | apply Kd.R_alloc | apply Kd.R_drewN | apply Kd.R_drew)); exact HO_270000.out) hb); have n3_ := Aside0.mk (Kd.R_below (by (with_reducible repeat (first | apply Kd.R_alloc | apply Kd.R_drewN | apply Kd.R_drew)); exact HO283.out) hb); have n4_ := Aside0.mk (blk_below (g := gb269) (o := .cells #[.slice Ao17 t265.length co17, .int .i64 t268] 26 (0, 0)) (by (with_reducible repeat (first | refine blk_drewN ?_ _ | refine blk_drew ?_ | refine blk_alloc ?_ _)); exact BK269.out) hb); have n5_ := Aside0.mk (below_step (by repeat (first | (with_reducible first | exact HB.out | apply below_alloc | apply pw_below_drewN | apply below_drew1 | refine below_set ?_ GE269.out) | exact HB.out)) hb); clear HO_17; clear HO_18; clear HO_270000; clear HO283; clear BK269; clear HB; have HO_17 := n0_; have HO_18 := n1_; have HO_270000 := n2_; have HO283 := n3_; have BK269 := n4_; have HB := n5_; clear n0_ n1_ n2_ n3_ n4_ n5_; (try clear hb); (try clear hb2); (try clear hk); (try clear hi)) | ((with_reducible refine gate_callee (f := 18) rfl ?_); refine goesL_ (some 67) rfl rfl Try.func18 (by kernel_rfl) rfl #[.int .i64 a5, .int .i64 5] rfl (by (try simp only [List.map_toArray, List.map_cons, List.map_nil]); first | done | rfl | (simp only [List.length_drop, List.length_take]; rfl)) ?_; (with_reducible refine (dialtonelaw34_pick.calls a5 5 t290 _ A44.out).mono ?_); rintro e w53 ⟨rfl, hb⟩; refine ⟨_, rfl, ?_⟩; have n0_ := Aside0.mk (Kd.R_below (by (with_reducible repeat (first | apply Kd.R_alloc | apply Kd.R_drewN | apply Kd.R_drew)); exact HO_17.out) hb); have n1_ := Aside0.mk (Kd.R_below (by (with_reducible repeat (first | apply Kd.R_alloc | apply Kd.R_drewN | apply Kd.R_drew)); exact HO_18.out) hb); have n2_ := Aside0.mk (Kd.R_below (by (with_reducible repeat (first | apply Kd.R_alloc | apply Kd.R_drewN | apply Kd.R_drew)); exact HO_270000.out) hb); have n3_ := Aside0.mk (Kd.R_below (by (with_reducible repeat (first | apply Kd.R_alloc | apply Kd.R_drewN | apply Kd.R_drew)); exact HO283.out) hb); have n4_ := Aside0.mk (blk_below (g := gb269) (o := .cells #[.slice Ao17 t265.length co17, .int .i64 t268] 26 (0, 0)) (by (with_reducible repeat (first | refine blk_drewN ?_ _ | refine blk_drew ?_ | refine blk_alloc ?_ _)); exact BK269.out) hb); have n5_ := Aside0.mk (below_step (by repeat (first | (with_reducible first | exact HB.out | apply below_alloc | apply pw_below_drewN | apply below_drew1 | refine below_set ?_ GE269.out) | exact HB.out)) hb); clear HO_17; clear HO_18; clear HO_270000; clear HO283; clear BK269; clear HB; have HO_17 := n0_; have HO_18 := n1_; have HO_270000 := n2_; have HO283 := n3_; have BK269 := n4_; have HB := n5_; clear n0_ n1_ n2_ n3_ n4_ n5_; (try clear hb); (try clear hb2); (try clear hk); (try clear hi)))
       (try simp only [Act.put, List.setIfInBounds_toArray, List.set_cons_zero, List.set_cons_succ])
       go_cut [20] (fun v20 wc => ∃ (kq : Nat) (x20_44 : List (S39)), Aside0 (dialtonelaw34_RecoveryChecks.j1 kq a5 t270 x20_44 t288 t289 t265 t268 = some r) ∧ Aside0 (kq ≤ kj12) ∧ Aside0 (Kd.R k60 60 wc w.heap.size (fun _ => True) (.slice Ao21 t270.length co21) t270) ∧ Aside0 (Kd.R k39 39 wc w.heap.size (fun _ => True) v20 x20_44) ∧ Aside0 (Kd.R k67 67 wc w.heap.size (fun _ => True) (.slice Ao17 t265.length co17) t265) ∧ Aside0 (wc.heap[gb269]? = some (.cells #[(.slice Ao17 t265.length co17), .int .i64 t268] 26 (0, 0))) ∧ Aside0 (Below w.heap.size w wc))
       case first =>
        have H := HC45.out
        clear HC45
        by_cases c54 : t290 = 0
        ·
         rw [if_pos c54] at H
         have c54b0 : (t290 == 0) = true := beq_iff_eq.mpr c54
         have c54b1 : (t290 != 0) = false := bne_eq_false_iff_eq.mpr c54
         clear c54
         (first | rw [c54b0] | (simp only [i64_w, i32_w]; rw [c54b0]) | skip)
         by_cases c55 : 0 ≤ t288
         ·
          rw [if_pos c55] at H
          have c55b0 : decide (0 ≤ t288) = true := decide_eq_true c55
          clear c55
          by_cases c56 : t288 < (y281.length : Int)
          ·
           rw [if_pos c56] at H
           have c56b0 : decide (t288 < (y281.length : Int)) = true := decide_eq_true c56
           clear c56
           replace H := Option.bind_eq_some_iff.mp H
           obtain ⟨t292, A570, H⟩ := H
           replace H : (dialtonelaw34_RecoveryChecks.j1 kj12 a5 t270 (y281.set (t288 : Int).toNat (⟨(rd_T39 y281 t288).f0, (rd_T39 y281 t288).f1, wrap64 ((wrap64 (((rd_T39 y281 t288).f2) + 1)) + t292)⟩ : S39)) t288 t289 t265 t268) = some r := H
           have A57 := Aside0.mk A570
           clear A570
           obtain ⟨y293, hy293⟩ : ∃ y_ : List (S39), y_ = (y281.set (t288 : Int).toNat (⟨(rd_T39 y281 t288).f0, (rd_T39 y281 t288).f1, wrap64 ((wrap64 (((rd_T39 y281 t288).f2) + 1)) + t292)⟩ : S39)) := ⟨_, rfl⟩
           replace H : (dialtonelaw34_RecoveryChecks.j1 kj12 a5 t270 y293 t288 t289 t265 t268) = some r := by first | (rw [hy293]; with_reducible exact H) | (have H2_ := (Option.bind_some _ _).symm.trans H; rw [hy293]; with_reducible exact H2_) | (have H2_ := (Option.bind_some _ _).symm.trans H; with_reducible exact H2_) | with_reducible exact H | (rw [hy293]; exact H) | exact H
           have Ny293 := Aside0.mk hy293
           clear hy293
           have H' := Aside0.mk H
           clear H
           try go_wp2
           have n0_ := Aside0.mk (Kd.R_drew HO_17.out)
           have n1_ := Aside0.mk (Kd.R_drew HO_18.out)
           have n2_ := Aside0.mk (Kd.R_drew HO_270000.out)
           have n3_ := Aside0.mk (Kd.R_drew HO283.out)
           have n4_ := Aside0.mk (blk_drew BK269.out)
           have n5_ := Aside0.mk (below_drew1 HB.out)
           clear HO_17
           clear HO_18
           clear HO_270000
           clear HO283
           clear BK269
           clear HB
           have HO_17 := n0_
           have HO_18 := n1_
           have HO_270000 := n2_
           have HO283 := n3_
           have BK269 := n4_
           have HB := n5_
           clear n0_ n1_ n2_ n3_ n4_ n5_
           have p291 : 0 ≤ (t288 : Int) := of_decide_eq_true (by first | (with_reducible assumption) | assumption)
           have q291 : t288 < (y281.length : Int) := of_decide_eq_true (by first | (with_reducible assumption) | assumption)
           obtain ⟨ad291, e291, hx291_0, hx291_1, hx291_2⟩ := at_T39 (Kd.R_reads' HO283.out).2.2 t288 p291 q291
           cases e291
           replace p291 := eq_true p291
           replace q291 := eq_true q291
           refine start_ (n := 14) (S := fun w' => w'.cell? (ad291.add ((t288).toNat * 3)) = some (.int .i64 ((rd_T39 y281 t288).f0)) ∧ w'.cell? ⟨(ad291.add ((t288).toNat * 3)).block, (ad291.add ((t288).toNat * 3)).off + 1, none⟩ = some (.int .i64 ((rd_T39 y281 t288).f1)) ∧ w'.cell? ⟨(ad291.add ((t288).toNat * 3)).block, (ad291.add ((t288).toNat * 3)).off + 2, none⟩ = some (.int .i64 ((rd_T39 y281 t288).f2))) (ds := [13]) #[false, false, false, false, false, false, false, false, false, false, false, false, false, false] (by kernel_rfl) rfl rfl ⟨hx291_0, hx291_1, hx291_2⟩ (fun hHeld => ?_); refine with_tabW dialtonelaw34_RecoveryChecks.tab17 dialtonelaw34_RecoveryChecks.bits17 (fun HT_ HW_ => ?_)
           generalize w53.drew = w59 at HO_17 HO_18 HO_270000 HO283 BK269 HB hx291_0 hx291_1 hx291_2 hHeld ⊢
           refine pure_ (i := 0) (N := some 77) (v := ?_) (a' := ?_) #[true, false, false, false, false, false, false, false, false, false, false, false, false, false] rfl rfl (any_of HT_.out (by kernel_rfl)) (fun _ _ _ h => h) (Or.inl ⟨by rfl, ?_⟩) ?_ ?_
           rotate_left
           ·
            intro w'
            go_simp
            with_reducible rfl
           rotate_left
           ·
            simp only [Act.put, List.setIfInBounds_toArray, List.set_cons_zero, List.set_cons_succ, i64_w, i32_w]
            rfl
           refine pure_ (i := 1) (N := some 78) (v := ?_) (a' := ?_) #[true, true, false, false, false, false, false, false, false, false, false, false, false, false] rfl rfl (any_of HT_.out (by kernel_rfl)) (fun _ _ _ h => h) (Or.inl ⟨by rfl, ?_⟩) ?_ ?_
           rotate_left
           ·
            intro w'
            go_simp
            with_reducible rfl
           rotate_left
           ·
            simp only [Act.put, List.setIfInBounds_toArray, List.set_cons_zero, List.set_cons_succ, i64_w, i32_w]
            rfl
           refine pure_ (i := 2) (N := some 79) (v := ?_) (a' := ?_) #[true, true, true, false, false, false, false, false, false, false, false, false, false, false] rfl rfl (any_of HT_.out (by kernel_rfl)) (fun _ _ _ h => h) (Or.inl ⟨by rfl, ?_⟩) ?_ ?_
           rotate_left
           ·
            intro w'
            go_simp
            with_reducible rfl
           rotate_left
           ·
            simp only [Act.put, List.setIfInBounds_toArray, List.set_cons_zero, List.set_cons_succ, i64_w, i32_w]
            rfl
           refine pure_ (i := 3) (N := some 80) (v := ?_) (a' := ?_) #[true, true, true, true, false, false, false, false, false, false, false, false, false, false] rfl rfl (any_of HT_.out (by kernel_rfl)) (fun _ _ _ h => h) (Or.inl ⟨by rfl, ?_⟩) ?_ ?_
           rotate_left
           ·
            intro w'
            go_simp
            with_reducible rfl
           rotate_left
           ·
            simp only [Act.put, List.setIfInBounds_toArray, List.set_cons_zero, List.set_cons_succ, i64_w, i32_w]
            rfl
           refine pure_ (i := 4) (N := some 81) (v := ?_) (a' := ?_) #[true, true, true, true, true, false, false, false, false, false, false, false, false, false] rfl rfl (any_of HT_.out (by kernel_rfl)) (fun _ _ _ h => h) (Or.inl ⟨by rfl, ?_⟩) ?_ ?_
           rotate_left
           ·
            intro w'
            go_simp
            with_reducible rfl
           rotate_left
           ·
            simp only [Act.put, List.setIfInBounds_toArray, List.set_cons_zero, List.set_cons_succ, i64_w, i32_w]
            rfl
           refine pure_ (i := 5) (N := some 82) (v := ?_) (a' := ?_) #[true, true, true, true, true, true, false, false, false, false, false, false, false, false] rfl rfl (any_of HT_.out (by kernel_rfl)) (fun _ _ _ h => h) (Or.inl ⟨by rfl, ?_⟩) ?_ ?_
           rotate_left
           ·
            intro w'
            go_simp
            with_reducible rfl
           rotate_left
           ·
            simp only [Act.put, List.setIfInBounds_toArray, List.set_cons_zero, List.set_cons_succ, i64_w, i32_w]
            rfl
           refine pure_ (i := 8) (N := some 85) (v := ?_) (a' := ?_) #[true, true, true, true, true, true, false, false, true, false, false, false, false, false] rfl rfl (any_of HT_.out (by kernel_rfl)) (fun _ _ _ h => h) (Or.inl ⟨by rfl, ?_⟩) ?_ ?_
           rotate_left
           ·
            intro w'
            go_simp
            with_reducible rfl
           rotate_left
           ·
            simp only [Act.put, List.setIfInBounds_toArray, List.set_cons_zero, List.set_cons_succ, i64_w, i32_w]
            rfl
           refine take_ (i := 6) (N := some 83) (v := ?_) (a' := ?_) #[true, true, true, true, true, true, true, false, true, false, false, false, false, false] rfl rfl (take_ofW HT_.out HW_.out (by kernel_rfl)) (fun _ _ _ h => h) (Or.inl ⟨by rfl, ?_⟩) hHeld ?_ ?_
           rotate_left
           ·
            rintro w' ⟨s0, s1, s2⟩
            go_simp
            with_reducible rfl
           rotate_left
           ·
            simp only [Act.put, List.setIfInBounds_toArray, List.set_cons_zero, List.set_cons_succ, i64_w, i32_w]
            rfl
           refine pure_ (i := 7) (N := some 84) (v := ?_) (a' := ?_) #[true, true, true, true, true, true, true, true, true, false, false, false, false, false] rfl rfl (any_of HT_.out (by kernel_rfl)) (fun _ _ _ h => h) (Or.inl ⟨by rfl, ?_⟩) ?_ ?_
           rotate_left
           ·
            intro w'
            go_simp
            with_reducible rfl
           rotate_left
           ·
            simp only [Act.put, List.setIfInBounds_toArray, List.set_cons_zero, List.set_cons_succ, i64_w, i32_w]
            rfl
           refine one_ (i := 9) (N := some 86) #[true, true, true, true, true, true, true, true, true, true, false, false, false, false] rfl rfl (one_of HT_.out (by kernel_rfl)) (by decide) (fun K hK => ?_)
           refine goes_ Try.func18 (by kernel_rfl) rfl #[.int .i64 a6, .int .i64 3] (by rfl) rfl rfl (by (try simp only [List.map_toArray, List.map_cons, List.map_nil]); first | done | rfl | (simp only [List.length_drop, List.length_take]; rfl)) ?_
           with_reducible refine (dialtonelaw34_pick.calls a6 3 t292 _ A57.out).mono ?_
           rintro e w60 ⟨rfl, hb⟩
           have HS0_ := (hb.cell (World.block_lt_of_cell? _ _ (hHeld.1))).trans (hHeld.1)
           have HS1_ := (hb.cell (World.block_lt_of_cell? _ _ (hHeld.2.1))).trans (hHeld.2.1)
           have HS2_ := (hb.cell (World.block_lt_of_cell? _ _ (hHeld.2.2))).trans (hHeld.2.2)
           refine ⟨_, rfl, ?_⟩
           have n0_ := Aside0.mk (Kd.R_below (by (with_reducible repeat (first | apply Kd.R_alloc | apply Kd.R_drewN | apply Kd.R_drew)); exact HO_17.out) hb)
           have n1_ := Aside0.mk (Kd.R_below (by (with_reducible repeat (first | apply Kd.R_alloc | apply Kd.R_drewN | apply Kd.R_drew)); exact HO_18.out) hb)
           have n2_ := Aside0.mk (Kd.R_below (by (with_reducible repeat (first | apply Kd.R_alloc | apply Kd.R_drewN | apply Kd.R_drew)); exact HO_270000.out) hb)
           have n3_ := Aside0.mk (Kd.R_below (by (with_reducible repeat (first | apply Kd.R_alloc | apply Kd.R_drewN | apply Kd.R_drew)); exact HO283.out) hb)
           have n4_ := Aside0.mk (blk_below (g := gb269) (o := .cells #[.slice Ao17 t265.length co17, .int .i64 t268] 26 (0, 0)) (by (with_reducible repeat (first | refine blk_drewN ?_ _ | refine blk_drew ?_ | refine blk_alloc ?_ _)); exact BK269.out) hb)
           have n5_ := Aside0.mk (below_step (by repeat (first | (with_reducible first | exact HB.out | apply below_alloc | apply pw_below_drewN | apply below_drew1 | refine below_set ?_ GE269.out) | exact HB.out)) hb)
           clear HO_17
           clear HO_18
           clear HO_270000
           clear HO283
           clear BK269
           clear HB
           have HO_17 := n0_
           have HO_18 := n1_
           have HO_270000 := n2_
           have HO283 := n3_
           have BK269 := n4_
           have HB := n5_
           clear n0_ n1_ n2_ n3_ n4_ n5_
           (try clear hb)
           (try clear hb2)
           (try clear hk)
           (try clear hi)
           have p58 : 0 ≤ (t288 : Int) := of_decide_eq_true (by first | (with_reducible assumption) | assumption)
           have q58 : (t288 : Int) < ((y281.length : Int) : Int) := of_decide_eq_true (by first | (with_reducible assumption) | assumption)
           obtain ⟨go58, co58, eo58, gb58, gl58, cl58, HG58⟩ := Kd.R_form HO283.out (by omega)
           (first | cases eo58 | (injection eo58 with ea_ en_ ec_; (first | subst ea_ | (injection ea_ with ea_; subst ea_)); subst ec_; clear en_))
           have GB58 := Aside0.mk gb58
           have GG58 := Aside0.mk HG58
           clear gb58 gl58 HG58
           (first | simp only [add_plain] at hx291_0 | skip)
           (first | simp only [add_plain] at hx291_1 | skip)
           (first | simp only [add_plain] at hx291_2 | skip)
           obtain ⟨ce58, hcl58, hM58, hcc58, hfr58⟩ := Kd.R_elem HO283.out z39 (t288 : Int) p58 q58
           obtain rfl := k39_openM hM58
           have hx58_0 : World.cell? _ ⟨go58, (t288 : Int).toNat * 3, none⟩ = some (.int .i64 ((rd_T39 y281 t288).f0)) := hcc58 0 _ rfl
           have hx58_1 : World.cell? _ ⟨go58, (t288 : Int).toNat * 3 + 1, none⟩ = some (.int .i64 ((rd_T39 y281 t288).f1)) := hcc58 1 _ rfl
           have hx58_2 : World.cell? _ ⟨go58, (t288 : Int).toNat * 3 + 2, none⟩ = some (.int .i64 ((rd_T39 y281 t288).f2)) := hcc58 2 _ rfl
           have hf58_0 : World.frozen? _ ⟨go58, (t288 : Int).toNat * 3, none⟩ = false := hfr58 0
           have hf58_1 : World.frozen? _ ⟨go58, (t288 : Int).toNat * 3 + 1, none⟩ = false := hfr58 1
           have hf58_2 : World.frozen? _ ⟨go58, (t288 : Int).toNat * 3 + 2, none⟩ = false := hfr58 2
           clear hcl58 hcc58 hfr58 hM58
           replace p58 := eq_true p58
           replace q58 := eq_true q58
           obtain ⟨ce61, hcl61, hM61, hcc61, hfr61⟩ := Kd.R_elem HO283.out z39 (t288 : Int) (of_decide_eq_true (by first | (with_reducible assumption) | assumption)) (by have h_ : (t288 : Int) < ((y281.length : Int) : Int) := of_decide_eq_true (by first | (with_reducible assumption) | assumption); first | exact h_ | (have e_ := (Kd.R_reads' HO283.out).1; omega) | simpa using h_)
           obtain rfl := k39_openM hM61
           have HP61 := (Kd.R_seg HO283.out (t288 : Int) (of_decide_eq_true (by first | (with_reducible assumption) | assumption)) (by have h_ : (t288 : Int) < ((y281.length : Int) : Int) := of_decide_eq_true (by first | (with_reducible assumption) | assumption); first | exact h_ | (have e_ := (Kd.R_reads' HO283.out).1; omega) | simpa using h_) (seg := [.int .i64 (wrap64 ((wrap64 (((rd_T39 y281 t288).f2) + 1)) + t292))]) (j := 2) hcl61 hcc61 (show 3 ≤ 3 from by decide) (x' := (⟨(rd_T39 y281 t288).f0, (rd_T39 y281 t288).f1, wrap64 ((wrap64 (((rd_T39 y281 t288).f2) + 1)) + t292)⟩ : S39)) (k39_mkM _ _ _ (⟨(rd_T39 y281 t288).f0, (rd_T39 y281 t288).f1, wrap64 ((wrap64 (((rd_T39 y281 t288).f2) + 1)) + t292)⟩ : S39) ) (fun _ hk => hk)).1
           rw [← Ny293.out] at HP61
           have HQ61 := Aside0.mk HP61
           clear hcl61 hcc61 hfr61 hM61 HP61
           refine hK.out _ _ ⟨HS0_, HS1_, HS2_⟩ (fun hHeld => ?_)
           clear hK K
           refine norm_ (a' := ?_) ?_ ?_
           rotate_left
           ·
            show Act.put _ (some 86) _ = _
            simp only [Act.put, List.setIfInBounds_toArray, List.set_cons_zero, List.set_cons_succ, i64_w, i32_w]
            rfl
           refine pure_ (i := 10) (N := some 87) (v := ?_) (a' := ?_) #[true, true, true, true, true, true, true, true, true, true, true, false, false, false] rfl rfl (any_of HT_.out (by kernel_rfl)) (fun _ _ _ h => h) (Or.inl ⟨by rfl, ?_⟩) ?_ ?_
           rotate_left
           ·
            intro w'
            go_simp
            with_reducible rfl
           rotate_left
           ·
            simp only [Act.put, List.setIfInBounds_toArray, List.set_cons_zero, List.set_cons_succ, i64_w, i32_w]
            rfl
           refine pure_ (i := 11) (N := some 88) (v := ?_) (a' := ?_) #[true, true, true, true, true, true, true, true, true, true, true, true, false, false] rfl rfl (any_of HT_.out (by kernel_rfl)) (fun _ _ _ h => h) (Or.inl ⟨by rfl, ?_⟩) ?_ ?_
           rotate_left
           ·
            intro w'
            go_simp
            with_reducible rfl
           rotate_left
           ·
            simp only [Act.put, List.setIfInBounds_toArray, List.set_cons_zero, List.set_cons_succ, i64_w, i32_w]
            rfl
           refine pure_ (i := 12) (N := some 89) (v := ?_) (a' := ?_) #[true, true, true, true, true, true, true, true, true, true, true, true, true, false] rfl rfl (any_of HT_.out (by kernel_rfl)) (fun _ _ _ h => h) (Or.inl ⟨by rfl, ?_⟩) ?_ ?_
           rotate_left
           ·
            intro w'
            go_simp
            with_reducible rfl
           rotate_left
           ·
            simp only [Act.put, List.setIfInBounds_toArray, List.set_cons_zero, List.set_cons_succ, i64_w, i32_w]
            rfl
           refine last_ (i := 13) (N := none) #[true, true, true, true, true, true, true, true, true, true, true, true, true, true] rfl rfl (one_of HT_.out (by kernel_rfl)) (by decide) (fun K hK => ?_)
           refine skip_ (w1 := ?_) (by rfl) rfl ?_ ?_
           rotate_left
           ·
            go_simp
            rfl
           refine hK.out _ _ ?_
           clear hK K
           refine done_ (done_of HT_.out (by kernel_rfl)) ?_
           try go_wp2
           go_meet
           case rel => exact ⟨_, (y293), H', ⟨by have := HJ12.out; first | omega | exact Nat.le_refl _⟩, ⟨by (with_reducible repeat (first | apply Kd.R_alloc | apply Kd.R_drewN | apply Kd.R_drew)); exact Kd.R_mono (Kd.R_far (p := ⟨go58, (t288 : Int).toNat * 3 + 2, none⟩) (Kd.R_types HO_17.out GG58.out (by decide)) (fun _ hk => hk.2) (.int .i64 (wrap64 ((wrap64 (((rd_T39 y281 t288).f2) + 1)) + t292)))) (fun _ hk => trivial)⟩, ⟨by (with_reducible repeat (first | apply Kd.R_alloc | apply Kd.R_drewN | apply Kd.R_drew)); exact Kd.R_mono HQ61.out (fun _ hk => trivial)⟩, ⟨by (with_reducible repeat (first | apply Kd.R_alloc | apply Kd.R_drewN | apply Kd.R_drew)); exact Kd.R_mono (Kd.R_far (p := ⟨go58, (t288 : Int).toNat * 3 + 2, none⟩) (Kd.R_types HO_270000.out GG58.out (by decide)) (fun _ hk => hk.2) (.int .i64 (wrap64 ((wrap64 (((rd_T39 y281 t288).f2) + 1)) + t292)))) (fun _ hk => trivial)⟩, ⟨by (with_reducible repeat (first | refine blk_drewN ?_ _ | refine blk_drew ?_ | refine blk_alloc ?_ _)); refine blk_far ?_ (by have h_ := Kd.R_ne HO283.out BK269.out (by decide); intro e_; exact h_ (by rw [e_]; rfl)) _; (with_reducible repeat (first | refine blk_drewN ?_ _ | refine blk_drew ?_ | refine blk_alloc ?_ _)); exact BK269.out⟩, ⟨by repeat (first | (with_reducible first | exact HB.out | apply below_alloc | apply pw_below_drewN | apply below_drew1 | refine below_set ?_ GB58.out | refine below_set ?_ GE269.out) | exact HB.out)⟩⟩
          ·
           rw [if_neg c56] at H
           exact absurd H (by simp)
         ·
          rw [if_neg c55] at H
          exact absurd H (by simp)
        ·
         rw [if_neg c54] at H
         have c54b0 : (t290 == 0) = false := beq_eq_false_iff_ne.mpr c54
         have c54b1 : (t290 != 0) = true := bne_iff_ne.mpr c54
         (first | rw [c54b0] | (simp only [i64_w, i32_w]; rw [c54b0]) | skip)
         by_cases c62 : t290 = 1
         ·
          rw [if_pos c62] at H
          have c62b0 : (t290 == 1) = true := beq_iff_eq.mpr c62
          have c62b1 : (t290 != 1) = false := bne_eq_false_iff_eq.mpr c62
          clear c62
          by_cases c63 : 0 ≤ t288
          ·
           rw [if_pos c63] at H
           have c63b0 : decide (0 ≤ t288) = true := decide_eq_true c63
           clear c63
           by_cases c64 : t288 < (y281.length : Int)
           ·
            rw [if_pos c64] at H
            have c64b0 : decide (t288 < (y281.length : Int)) = true := decide_eq_true c64
            clear c64
            obtain ⟨y295, hy295⟩ : ∃ y_ : List (S39), y_ = (y281.set (t288 : Int).toNat (⟨(rd_T39 y281 t288).f0, wrap64 (((rd_T39 y281 t288).f1) - 1), (rd_T39 y281 t288).f2⟩ : S39)) := ⟨_, rfl⟩
            replace H : (dialtonelaw34_RecoveryChecks.j1 kj12 a5 t270 y295 t288 t289 t265 t268) = some r := by first | (rw [hy295]; with_reducible exact H) | (have H2_ := (Option.bind_some _ _).symm.trans H; rw [hy295]; with_reducible exact H2_) | (have H2_ := (Option.bind_some _ _).symm.trans H; with_reducible exact H2_) | with_reducible exact H | (rw [hy295]; exact H) | exact H
            have Ny295 := Aside0.mk hy295
            clear hy295
            have H' := Aside0.mk H
            clear H
            have p294 : 0 ≤ (t288 : Int) := of_decide_eq_true (by first | (with_reducible assumption) | assumption)
            have q294 : t288 < (y281.length : Int) := of_decide_eq_true (by first | (with_reducible assumption) | assumption)
            obtain ⟨ad294, e294, hx294_0, hx294_1, hx294_2⟩ := at_T39 (Kd.R_reads' HO283.out).2.2 t288 p294 q294
            cases e294
            replace p294 := eq_true p294
            replace q294 := eq_true q294
            have p65 : 0 ≤ (t288 : Int) := of_decide_eq_true (by first | (with_reducible assumption) | assumption)
            have q65 : (t288 : Int) < ((y281.length : Int) : Int) := of_decide_eq_true (by first | (with_reducible assumption) | assumption)
            obtain ⟨go65, co65, eo65, gb65, gl65, cl65, HG65⟩ := Kd.R_form HO283.out (by omega)
            (first | cases eo65 | (injection eo65 with ea_ en_ ec_; (first | subst ea_ | (injection ea_ with ea_; subst ea_)); subst ec_; clear en_))
            have GB65 := Aside0.mk gb65
            have GG65 := Aside0.mk HG65
            clear gb65 gl65 HG65
            (first | simp only [add_plain] at hx294_0 | skip)
            (first | simp only [add_plain] at hx294_1 | skip)
            (first | simp only [add_plain] at hx294_2 | skip)
            obtain ⟨ce65, hcl65, hM65, hcc65, hfr65⟩ := Kd.R_elem HO283.out z39 (t288 : Int) p65 q65
            obtain rfl := k39_openM hM65
            have hx65_0 : w53.cell? ⟨go65, (t288 : Int).toNat * 3, none⟩ = some (.int .i64 ((rd_T39 y281 t288).f0)) := hcc65 0 _ rfl
            have hx65_1 : w53.cell? ⟨go65, (t288 : Int).toNat * 3 + 1, none⟩ = some (.int .i64 ((rd_T39 y281 t288).f1)) := hcc65 1 _ rfl
            have hx65_2 : w53.cell? ⟨go65, (t288 : Int).toNat * 3 + 2, none⟩ = some (.int .i64 ((rd_T39 y281 t288).f2)) := hcc65 2 _ rfl
            have hf65_0 : w53.frozen? ⟨go65, (t288 : Int).toNat * 3, none⟩ = false := hfr65 0
            have hf65_1 : w53.frozen? ⟨go65, (t288 : Int).toNat * 3 + 1, none⟩ = false := hfr65 1
            have hf65_2 : w53.frozen? ⟨go65, (t288 : Int).toNat * 3 + 2, none⟩ = false := hfr65 2
            clear hcl65 hcc65 hfr65 hM65
            replace p65 := eq_true p65
            replace q65 := eq_true q65
            have HX66 := Aside0.mk (show Kd.R k39 39 w53 w.heap.size (fun k_ => some k_ ≠ (.slice Ao49 t273.length co49 : Value).ownBlock) (.slice (some ⟨go65, 0, none⟩) y281.length co50) y281 from (by (with_reducible repeat (first | apply Kd.R_alloc | apply Kd.R_drewN | apply Kd.R_drew)); exact HO283.out))
            obtain ⟨ce66, hcl66, hM66, hcc66, hfr66⟩ := Kd.R_elem HX66.out z39 (t288 : Int) (of_decide_eq_true (by first | (with_reducible assumption) | assumption)) (by have h_ : (t288 : Int) < ((y281.length : Int) : Int) := of_decide_eq_true (by first | (with_reducible assumption) | assumption); first | exact h_ | (have e_ := (Kd.R_reads' HO283.out).1; omega) | simpa using h_)
            obtain rfl := k39_openM hM66
            have HP66 := Kd.R_seg HX66.out (t288 : Int) (of_decide_eq_true (by first | (with_reducible assumption) | assumption)) (by have h_ : (t288 : Int) < ((y281.length : Int) : Int) := of_decide_eq_true (by first | (with_reducible assumption) | assumption); first | exact h_ | (have e_ := (Kd.R_reads' HO283.out).1; omega) | simpa using h_) (seg := [.int .i64 (wrap64 (((rd_T39 y281 t288).f1) - 1))]) (j := 1) hcl66 hcc66 (show 2 ≤ 3 from by decide) (x' := (⟨(rd_T39 y281 t288).f0, wrap64 (((rd_T39 y281 t288).f1) - 1), (rd_T39 y281 t288).f2⟩ : S39)) (k39_mkM _ _ _ (⟨(rd_T39 y281 t288).f0, wrap64 (((rd_T39 y281 t288).f1) - 1), (rd_T39 y281 t288).f2⟩ : S39) ) (fun _ hk => hk)
            have hx66_1 := hcc66 1 _ rfl
            (try simp only [show (k39).sz = 3 from rfl, Nat.mul_one, Nat.add_zero] at hx66_1)
            have hf66_1 := hfr66 1
            (try simp only [show (k39).sz = 3 from rfl, Nat.mul_one, Nat.add_zero] at hf66_1)
            clear hcl66 hcc66 hfr66 hM66
            go_wp2_with (first | ((with_reducible refine gate_store (t := 3) (p := 101) rfl ?_); refine store_event (t := 3) (p := 101) (v := ?vo_w67) (w1 := (w53.setCell ⟨go65, (t288 : Int).toNat * 3 + 1, none⟩ (.int .i64 (wrap64 (((rd_T39 y281 t288).f1) - 1))))) ?hg ?ho ?hn ?hr ?_; (case ho => rfl); (case hg => rfl); (case hn => rfl); (case hr => first | (go_simp; done) | (go_simp; rfl)); intro w67 hw; have hg : w53.grownBy w67 (some go65) := (by rw [hw]; exact HP66.2); have hp_ : Kd.R k39 39 w67 w.heap.size (fun k_ => some k_ ≠ (.slice Ao49 t273.length co49 : Value).ownBlock) (.slice (some ⟨go65, 0, none⟩) y281.length co50) y295 := (by rw [hw, Ny295.out]; exact HP66.1); clear HP66; have n0_ := Aside0.mk (Kd.R_over' (v := (.slice (some ⟨go65, 0, none⟩) y281.length co50)) (by (with_reducible repeat (first | apply Kd.R_alloc | apply Kd.R_drewN | apply Kd.R_drew)); exact HO_17.out) (Kd.R_typed HO283.out) (by decide) hg); have n1_ := Aside0.mk (Kd.R_after (v := (.slice (some ⟨go65, 0, none⟩) y281.length co50)) (v1 := (.slice (some ⟨go65, 0, none⟩) y281.length co50)) (ok := (fun _ => True)) (by (with_reducible repeat (first | apply Kd.R_alloc | apply Kd.R_drewN | apply Kd.R_drew)); exact HO_18.out) hg (.inl rfl)); have n2_ := Aside0.mk (Kd.R_over' (v := (.slice (some ⟨go65, 0, none⟩) y281.length co50)) (by (with_reducible repeat (first | apply Kd.R_alloc | apply Kd.R_drewN | apply Kd.R_drew)); exact HO_270000.out) (Kd.R_typed HO283.out) (by decide) hg); have n3_ := Aside0.mk (blk_grown (g := gb269) (o := .cells #[.slice Ao17 t265.length co17, .int .i64 t268] 26 (0, 0)) (by (with_reducible repeat (first | refine blk_drewN ?_ _ | refine blk_drew ?_ | refine blk_alloc ?_ _)); exact BK269.out) hg (Kd.R_ne HO283.out BK269.out (by decide))); have n4_ := Aside0.mk (hp_); have n5_ := Aside0.mk ((by rw [hw]; exact below_set (HB.out) GB65.out : Below w.heap.size w w67)); clear HO_17; clear HO_18; clear HO_270000; clear BK269; clear HO283; clear HB; have HO_17 := n0_; have HO_18 := n1_; have HO_270000 := n2_; have BK269 := n3_; have HO283 := n4_; have HB := n5_; clear n0_ n1_ n2_ n3_ n4_ n5_; clear hg hw hp_))
            go_meet
            case rel => exact ⟨_, (y295), H', ⟨by have := HJ12.out; first | omega | exact Nat.le_refl _⟩, ⟨by (with_reducible repeat (first | apply Kd.R_alloc | apply Kd.R_drewN | apply Kd.R_drew)); exact HO_17.out⟩, ⟨by (with_reducible repeat (first | apply Kd.R_alloc | apply Kd.R_drewN | apply Kd.R_drew)); exact Kd.R_mono HO283.out (fun _ hk => trivial)⟩, ⟨by (with_reducible repeat (first | apply Kd.R_alloc | apply Kd.R_drewN | apply Kd.R_drew)); exact HO_270000.out⟩, ⟨by (with_reducible repeat (first | refine blk_drewN ?_ _ | refine blk_drew ?_ | refine blk_alloc ?_ _)); exact BK269.out⟩, ⟨by repeat (first | (with_reducible first | exact HB.out | apply below_alloc | apply pw_below_drewN | apply below_drew1 | refine below_set ?_ GE269.out) | exact HB.out)⟩⟩
           ·
            rw [if_neg c64] at H
            exact absurd H (by simp)
          ·
           rw [if_neg c63] at H
           exact absurd H (by simp)
         ·
          rw [if_neg c62] at H
          have c62b0 : (t290 == 1) = false := beq_eq_false_iff_ne.mpr c62
          have c62b1 : (t290 != 1) = true := bne_iff_ne.mpr c62
          by_cases c68 : t290 = 2
          ·
           rw [if_pos c68] at H
           have c68b0 : (t290 == 2) = true := beq_iff_eq.mpr c68
           have c68b1 : (t290 != 2) = false := bne_eq_false_iff_eq.mpr c68
           clear c68
           by_cases c69 : 0 ≤ t289
           ·
            rw [if_pos c69] at H
            have c69b0 : decide (0 ≤ t289) = true := decide_eq_true c69
            clear c69
            by_cases c70 : t289 < (y281.length : Int)
            ·
             rw [if_pos c70] at H
             have c70b0 : decide (t289 < (y281.length : Int)) = true := decide_eq_true c70
             clear c70
             by_cases c71 : 0 ≤ t288
             ·
              rw [if_pos c71] at H
              have c71b0 : decide (0 ≤ t288) = true := decide_eq_true c71
              clear c71
              by_cases c72 : t288 < (y281.length : Int)
              ·
               rw [if_pos c72] at H
               have c72b0 : decide (t288 < (y281.length : Int)) = true := decide_eq_true c72
               clear c72
               obtain ⟨y298, hy298⟩ : ∃ y_ : List (S39), y_ = (y281.set (t288 : Int).toNat (⟨(rd_T39 y281 t289).f0, (rd_T39 y281 t289).f1, (rd_T39 y281 t289).f2⟩ : S39)) := ⟨_, rfl⟩
               replace H : (dialtonelaw34_RecoveryChecks.j1 kj12 a5 t270 (y298.set (t289 : Int).toNat (⟨(rd_T39 y281 t288).f0, (rd_T39 y281 t288).f1, (rd_T39 y281 t288).f2⟩ : S39)) t288 t289 t265 t268) = some r := by first | (rw [hy298]; with_reducible exact H) | (have H2_ := (Option.bind_some _ _).symm.trans H; rw [hy298]; with_reducible exact H2_) | (have H2_ := (Option.bind_some _ _).symm.trans H; with_reducible exact H2_) | with_reducible exact H | (rw [hy298]; exact H) | exact H
               have Ny298 := Aside0.mk hy298
               clear hy298
               obtain ⟨y299, hy299⟩ : ∃ y_ : List (S39), y_ = (y298.set (t289 : Int).toNat (⟨(rd_T39 y281 t288).f0, (rd_T39 y281 t288).f1, (rd_T39 y281 t288).f2⟩ : S39)) := ⟨_, rfl⟩
               replace H : (dialtonelaw34_RecoveryChecks.j1 kj12 a5 t270 y299 t288 t289 t265 t268) = some r := by first | (rw [hy299]; with_reducible exact H) | (have H2_ := (Option.bind_some _ _).symm.trans H; rw [hy299]; with_reducible exact H2_) | (have H2_ := (Option.bind_some _ _).symm.trans H; with_reducible exact H2_) | with_reducible exact H | (rw [hy299]; exact H) | exact H
               have Ny299 := Aside0.mk hy299
               clear hy299
               have H' := Aside0.mk H
               clear H
               try go_wp2
               have n0_ := Aside0.mk (Kd.R_drew HO_17.out)
               have n1_ := Aside0.mk (Kd.R_drew HO_18.out)
               have n2_ := Aside0.mk (Kd.R_drew HO_270000.out)
               have n3_ := Aside0.mk (Kd.R_drew HO283.out)
               have n4_ := Aside0.mk (blk_drew BK269.out)
               have n5_ := Aside0.mk (below_drew1 HB.out)
               clear HO_17
               clear HO_18
               clear HO_270000
               clear HO283
               clear BK269
               clear HB
               have HO_17 := n0_
               have HO_18 := n1_
               have HO_270000 := n2_
               have HO283 := n3_
               have BK269 := n4_
               have HB := n5_
               clear n0_ n1_ n2_ n3_ n4_ n5_
               have p296 : 0 ≤ (t289 : Int) := of_decide_eq_true (by first | (with_reducible assumption) | assumption)
               have q296 : t289 < (y281.length : Int) := of_decide_eq_true (by first | (with_reducible assumption) | assumption)
               obtain ⟨ad296, e296, hx296_0, hx296_1, hx296_2⟩ := at_T39 (Kd.R_reads' HO283.out).2.2 t289 p296 q296
               cases e296
               replace p296 := eq_true p296
               replace q296 := eq_true q296
               have p297 : 0 ≤ (t288 : Int) := of_decide_eq_true (by first | (with_reducible assumption) | assumption)
               have q297 : t288 < (y281.length : Int) := of_decide_eq_true (by first | (with_reducible assumption) | assumption)
               obtain ⟨ad297, e297, hx297_0, hx297_1, hx297_2⟩ := at_T39 (Kd.R_reads' HO283.out).2.2 t288 p297 q297
               obtain rfl : ad296 = ad297 := (by injection e297)
               replace p297 := eq_true p297
               replace q297 := eq_true q297
               have p73 : 0 ≤ (t288 : Int) := of_decide_eq_true (by first | (with_reducible assumption) | assumption)
               have q73 : (t288 : Int) < ((y281.length : Int) : Int) := of_decide_eq_true (by first | (with_reducible assumption) | assumption)
               obtain ⟨go73, co73, eo73, gb73, gl73, cl73, HG73⟩ := Kd.R_form HO283.out (by omega)
               (first | cases eo73 | (injection eo73 with ea_ en_ ec_; (first | subst ea_ | (injection ea_ with ea_; subst ea_)); subst ec_; clear en_))
               have GB73 := Aside0.mk gb73
               have GG73 := Aside0.mk HG73
               clear gb73 gl73 HG73
               (first | simp only [add_plain] at hx296_0 | skip)
               (first | simp only [add_plain] at hx296_1 | skip)
               (first | simp only [add_plain] at hx296_2 | skip)
               (first | simp only [add_plain] at hx297_0 | skip)
               (first | simp only [add_plain] at hx297_1 | skip)
               (first | simp only [add_plain] at hx297_2 | skip)
               obtain ⟨ce73, hcl73, hM73, hcc73, hfr73⟩ := Kd.R_elem HO283.out z39 (t288 : Int) p73 q73
               obtain rfl := k39_openM hM73
               have hx73_0 : World.cell? _ ⟨go73, (t288 : Int).toNat * 3, none⟩ = some (.int .i64 ((rd_T39 y281 t288).f0)) := hcc73 0 _ rfl
               have hx73_1 : World.cell? _ ⟨go73, (t288 : Int).toNat * 3 + 1, none⟩ = some (.int .i64 ((rd_T39 y281 t288).f1)) := hcc73 1 _ rfl
               have hx73_2 : World.cell? _ ⟨go73, (t288 : Int).toNat * 3 + 2, none⟩ = some (.int .i64 ((rd_T39 y281 t288).f2)) := hcc73 2 _ rfl
               have hf73_0 : World.frozen? _ ⟨go73, (t288 : Int).toNat * 3, none⟩ = false := hfr73 0
               have hf73_1 : World.frozen? _ ⟨go73, (t288 : Int).toNat * 3 + 1, none⟩ = false := hfr73 1
               have hf73_2 : World.frozen? _ ⟨go73, (t288 : Int).toNat * 3 + 2, none⟩ = false := hfr73 2
               obtain ⟨ce99, hcl99, hM99, hcc99, hfr99⟩ := Kd.R_elem HO283.out z39 (t289 : Int) (of_decide_eq_true (by first | (with_reducible assumption) | assumption)) (of_decide_eq_true (by first | (with_reducible assumption) | assumption))
               have hf99_0 : World.frozen? _ ⟨go73, (t289 : Int).toNat * 3, none⟩ = false := hfr99 0
               have hf99_1 : World.frozen? _ ⟨go73, (t289 : Int).toNat * 3 + 1, none⟩ = false := hfr99 1
               have hf99_2 : World.frozen? _ ⟨go73, (t289 : Int).toNat * 3 + 2, none⟩ = false := hfr99 2
               clear hcl99 hcc99 hfr99 hM99
               clear hcl73 hcc73 hfr73 hM73
               replace p73 := eq_true p73
               replace q73 := eq_true q73
               obtain ⟨ce76, hcl76, hM76, hcc76, hfr76⟩ := Kd.R_elem HO283.out z39 (t288 : Int) (of_decide_eq_true (by first | (with_reducible assumption) | assumption)) (by have h_ : (t288 : Int) < ((y281.length : Int) : Int) := of_decide_eq_true (by first | (with_reducible assumption) | assumption); first | exact h_ | (have e_ := (Kd.R_reads' HO283.out).1; omega) | simpa using h_)
               obtain rfl := k39_openM hM76
               have HP76 := (Kd.R_seg HO283.out (t288 : Int) (of_decide_eq_true (by first | (with_reducible assumption) | assumption)) (by have h_ : (t288 : Int) < ((y281.length : Int) : Int) := of_decide_eq_true (by first | (with_reducible assumption) | assumption); first | exact h_ | (have e_ := (Kd.R_reads' HO283.out).1; omega) | simpa using h_) (seg := [.int .i64 ((rd_T39 y281 t289).f0), .int .i64 ((rd_T39 y281 t289).f1), .int .i64 ((rd_T39 y281 t289).f2)]) (j := 0) hcl76 hcc76 (show 3 ≤ 3 from by decide) (x' := (⟨(rd_T39 y281 t289).f0, (rd_T39 y281 t289).f1, (rd_T39 y281 t289).f2⟩ : S39)) (k39_mkM _ _ _ (⟨(rd_T39 y281 t289).f0, (rd_T39 y281 t289).f1, (rd_T39 y281 t289).f2⟩ : S39) ) (fun _ hk => hk)).1
               rw [← Ny298.out] at HP76
               have HQ76 := Aside0.mk HP76
               clear hcl76 hcc76 hfr76 hM76 HP76
               have p74 : 0 ≤ (t289 : Int) := of_decide_eq_true (by first | (with_reducible assumption) | assumption)
               have q74 : (t289 : Int) < ((y281.length : Int) : Int) := of_decide_eq_true (by first | (with_reducible assumption) | assumption)
               obtain ⟨ce74, hcl74, hM74, hcc74, hfr74⟩ := Kd.R_elem HQ76.out z39 (t289 : Int) p74 q74
               obtain rfl := k39_openM hM74
               have hx74_0 : World.cell? _ ⟨go73, (t289 : Int).toNat * 3, none⟩ = some (.int .i64 ((rd_T39 y298 t289).f0)) := hcc74 0 _ rfl
               have hx74_1 : World.cell? _ ⟨go73, (t289 : Int).toNat * 3 + 1, none⟩ = some (.int .i64 ((rd_T39 y298 t289).f1)) := hcc74 1 _ rfl
               have hx74_2 : World.cell? _ ⟨go73, (t289 : Int).toNat * 3 + 2, none⟩ = some (.int .i64 ((rd_T39 y298 t289).f2)) := hcc74 2 _ rfl
               have hf74_0 : World.frozen? _ ⟨go73, (t289 : Int).toNat * 3, none⟩ = false := hfr74 0
               have hf74_1 : World.frozen? _ ⟨go73, (t289 : Int).toNat * 3 + 1, none⟩ = false := hfr74 1
               have hf74_2 : World.frozen? _ ⟨go73, (t289 : Int).toNat * 3 + 2, none⟩ = false := hfr74 2
               clear hcl74 hcc74 hfr74 hM74
               replace p74 := eq_true p74
               replace q74 := eq_true q74
               obtain ⟨ce77, hcl77, hM77, hcc77, hfr77⟩ := Kd.R_elem HQ76.out z39 (t289 : Int) (of_decide_eq_true (by first | (with_reducible assumption) | assumption)) (by have h_ : (t289 : Int) < ((y281.length : Int) : Int) := of_decide_eq_true (by first | (with_reducible assumption) | assumption); first | exact h_ | (have e_ := (Kd.R_reads' HO283.out).1; omega) | simpa using h_)
               obtain rfl := k39_openM hM77
               have HP77 := (Kd.R_seg HQ76.out (t289 : Int) (of_decide_eq_true (by first | (with_reducible assumption) | assumption)) (by have h_ : (t289 : Int) < ((y281.length : Int) : Int) := of_decide_eq_true (by first | (with_reducible assumption) | assumption); first | exact h_ | (have e_ := (Kd.R_reads' HO283.out).1; omega) | simpa using h_) (seg := [.int .i64 ((rd_T39 y281 t288).f0), .int .i64 ((rd_T39 y281 t288).f1), .int .i64 ((rd_T39 y281 t288).f2)]) (j := 0) hcl77 hcc77 (show 3 ≤ 3 from by decide) (x' := (⟨(rd_T39 y281 t288).f0, (rd_T39 y281 t288).f1, (rd_T39 y281 t288).f2⟩ : S39)) (k39_mkM _ _ _ (⟨(rd_T39 y281 t288).f0, (rd_T39 y281 t288).f1, (rd_T39 y281 t288).f2⟩ : S39) ) (fun _ hk => hk)).1
               rw [← Ny299.out] at HP77
               have HQ77 := Aside0.mk HP77
               clear hcl77 hcc77 hfr77 hM77 HP77
               refine start_ (n := 16) (S := fun w' => w'.cell? ⟨go73, ((t289).toNat * 3), none⟩ = some (.int .i64 ((rd_T39 y281 t289).f0)) ∧ w'.cell? ⟨go73, ((t289).toNat * 3) + 1, none⟩ = some (.int .i64 ((rd_T39 y281 t289).f1)) ∧ w'.cell? ⟨go73, ((t289).toNat * 3) + 2, none⟩ = some (.int .i64 ((rd_T39 y281 t289).f2)) ∧ w'.cell? ⟨go73, ((t288).toNat * 3), none⟩ = some (.int .i64 ((rd_T39 y281 t288).f0)) ∧ w'.cell? ⟨go73, ((t288).toNat * 3) + 1, none⟩ = some (.int .i64 ((rd_T39 y281 t288).f1)) ∧ w'.cell? ⟨go73, ((t288).toNat * 3) + 2, none⟩ = some (.int .i64 ((rd_T39 y281 t288).f2))) (ds := [13, 15]) #[false, false, false, false, false, false, false, false, false, false, false, false, false, false, false, false] (by kernel_rfl) rfl rfl ⟨hx296_0, hx296_1, hx296_2, hx297_0, hx297_1, hx297_2⟩ (fun hHeld => ?_); refine with_tabW dialtonelaw34_RecoveryChecks.tab21 dialtonelaw34_RecoveryChecks.bits21 (fun HT_ HW_ => ?_)
               generalize w53.drew = w75 at HO_17 HO_18 HO_270000 HO283 BK269 HB GG73 HQ76 HQ77 hf73_0 hf73_1 hf73_2 hf74_0 hf74_1 hf74_2 hx296_0 hx296_1 hx296_2 hx297_0 hx297_1 hx297_2 hx73_0 hx73_1 hx73_2 hx74_0 hx74_1 hx74_2 hf99_0 hf99_1 hf99_2 hHeld ⊢
               refine pure_ (i := 0) (N := some 104) (v := ?_) (a' := ?_) #[true, false, false, false, false, false, false, false, false, false, false, false, false, false, false, false] rfl rfl (any_of HT_.out (by kernel_rfl)) (fun _ _ _ h => h) (Or.inl ⟨by rfl, ?_⟩) ?_ ?_
               rotate_left
               ·
                intro w'
                go_simp
                with_reducible rfl
               rotate_left
               ·
                simp only [Act.put, List.setIfInBounds_toArray, List.set_cons_zero, List.set_cons_succ, i64_w, i32_w]
                rfl
               refine pure_ (i := 1) (N := some 105) (v := ?_) (a' := ?_) #[true, true, false, false, false, false, false, false, false, false, false, false, false, false, false, false] rfl rfl (any_of HT_.out (by kernel_rfl)) (fun _ _ _ h => h) (Or.inl ⟨by rfl, ?_⟩) ?_ ?_
               rotate_left
               ·
                intro w'
                go_simp
                with_reducible rfl
               rotate_left
               ·
                simp only [Act.put, List.setIfInBounds_toArray, List.set_cons_zero, List.set_cons_succ, i64_w, i32_w]
                rfl
               refine pure_ (i := 2) (N := some 106) (v := ?_) (a' := ?_) #[true, true, true, false, false, false, false, false, false, false, false, false, false, false, false, false] rfl rfl (any_of HT_.out (by kernel_rfl)) (fun _ _ _ h => h) (Or.inl ⟨by rfl, ?_⟩) ?_ ?_
               rotate_left
               ·
                intro w'
                go_simp
                with_reducible rfl
               rotate_left
               ·
                simp only [Act.put, List.setIfInBounds_toArray, List.set_cons_zero, List.set_cons_succ, i64_w, i32_w]
                rfl
               refine pure_ (i := 3) (N := some 107) (v := ?_) (a' := ?_) #[true, true, true, true, false, false, false, false, false, false, false, false, false, false, false, false] rfl rfl (any_of HT_.out (by kernel_rfl)) (fun _ _ _ h => h) (Or.inl ⟨by rfl, ?_⟩) ?_ ?_
               rotate_left
               ·
                intro w'
                go_simp
                with_reducible rfl
               rotate_left
               ·
                simp only [Act.put, List.setIfInBounds_toArray, List.set_cons_zero, List.set_cons_succ, i64_w, i32_w]
                rfl
               refine pure_ (i := 4) (N := some 108) (v := ?_) (a' := ?_) #[true, true, true, true, true, false, false, false, false, false, false, false, false, false, false, false] rfl rfl (any_of HT_.out (by kernel_rfl)) (fun _ _ _ h => h) (Or.inl ⟨by rfl, ?_⟩) ?_ ?_
               rotate_left
               ·
                intro w'
                go_simp
                with_reducible rfl
               rotate_left
               ·
                simp only [Act.put, List.setIfInBounds_toArray, List.set_cons_zero, List.set_cons_succ, i64_w, i32_w]
                rfl
               refine pure_ (i := 5) (N := some 109) (v := ?_) (a' := ?_) #[true, true, true, true, true, true, false, false, false, false, false, false, false, false, false, false] rfl rfl (any_of HT_.out (by kernel_rfl)) (fun _ _ _ h => h) (Or.inl ⟨by rfl, ?_⟩) ?_ ?_
               rotate_left
               ·
                intro w'
                go_simp
                with_reducible rfl
               rotate_left
               ·
                simp only [Act.put, List.setIfInBounds_toArray, List.set_cons_zero, List.set_cons_succ, i64_w, i32_w]
                rfl
               refine pure_ (i := 6) (N := some 110) (v := ?_) (a' := ?_) #[true, true, true, true, true, true, true, false, false, false, false, false, false, false, false, false] rfl rfl (any_of HT_.out (by kernel_rfl)) (fun _ _ _ h => h) (Or.inl ⟨by rfl, ?_⟩) ?_ ?_
               rotate_left
               ·
                intro w'
                go_simp
                with_reducible rfl
               rotate_left
               ·
                simp only [Act.put, List.setIfInBounds_toArray, List.set_cons_zero, List.set_cons_succ, i64_w, i32_w]
                rfl
               refine pure_ (i := 8) (N := some 112) (v := ?_) (a' := ?_) #[true, true, true, true, true, true, true, false, true, false, false, false, false, false, false, false] rfl rfl (any_of HT_.out (by kernel_rfl)) (fun _ _ _ h => h) (Or.inl ⟨by rfl, ?_⟩) ?_ ?_
               rotate_left
               ·
                intro w'
                go_simp
                with_reducible rfl
               rotate_left
               ·
                simp only [Act.put, List.setIfInBounds_toArray, List.set_cons_zero, List.set_cons_succ, i64_w, i32_w]
                rfl
               refine pure_ (i := 9) (N := some 113) (v := ?_) (a' := ?_) #[true, true, true, true, true, true, true, false, true, true, false, false, false, false, false, false] rfl rfl (any_of HT_.out (by kernel_rfl)) (fun _ _ _ h => h) (Or.inl ⟨by rfl, ?_⟩) ?_ ?_
               rotate_left
               ·
                intro w'
                go_simp
                with_reducible rfl
               rotate_left
               ·
                simp only [Act.put, List.setIfInBounds_toArray, List.set_cons_zero, List.set_cons_succ, i64_w, i32_w]
                rfl
               refine pure_ (i := 10) (N := some 114) (v := ?_) (a' := ?_) #[true, true, true, true, true, true, true, false, true, true, true, false, false, false, false, false] rfl rfl (any_of HT_.out (by kernel_rfl)) (fun _ _ _ h => h) (Or.inl ⟨by rfl, ?_⟩) ?_ ?_
               rotate_left
               ·
                intro w'
                go_simp
                with_reducible rfl
               rotate_left
               ·
                simp only [Act.put, List.setIfInBounds_toArray, List.set_cons_zero, List.set_cons_succ, i64_w, i32_w]
                rfl
               refine take_ (i := 7) (N := some 111) (v := ?_) (a' := ?_) #[true, true, true, true, true, true, true, true, true, true, true, false, false, false, false, false] rfl rfl (take_ofW HT_.out HW_.out (by kernel_rfl)) (fun _ _ _ h => h) (Or.inl ⟨by rfl, ?_⟩) hHeld ?_ ?_
               rotate_left
               ·
                rintro w' ⟨s0, s1, s2, s3, s4, s5⟩
                go_simp
                with_reducible rfl
               rotate_left
               ·
                simp only [Act.put, List.setIfInBounds_toArray, List.set_cons_zero, List.set_cons_succ, i64_w, i32_w]
                rfl
               refine take_ (i := 11) (N := some 115) (v := ?_) (a' := ?_) #[true, true, true, true, true, true, true, true, true, true, true, true, false, false, false, false] rfl rfl (take_ofW HT_.out HW_.out (by kernel_rfl)) (fun _ _ _ h => h) (Or.inl ⟨by rfl, ?_⟩) hHeld ?_ ?_
               rotate_left
               ·
                rintro w' ⟨s0, s1, s2, s3, s4, s5⟩
                go_simp
                with_reducible rfl
               rotate_left
               ·
                simp only [Act.put, List.setIfInBounds_toArray, List.set_cons_zero, List.set_cons_succ, i64_w, i32_w]
                rfl
               refine pure_ (i := 12) (N := some 116) (v := ?_) (a' := ?_) #[true, true, true, true, true, true, true, true, true, true, true, true, true, false, false, false] rfl rfl (any_of HT_.out (by kernel_rfl)) (fun _ _ _ h => h) (Or.inl ⟨by rfl, ?_⟩) ?_ ?_
               rotate_left
               ·
                intro w'
                go_simp
                with_reducible rfl
               rotate_left
               ·
                simp only [Act.put, List.setIfInBounds_toArray, List.set_cons_zero, List.set_cons_succ, i64_w, i32_w]
                rfl
               refine last_ (i := 13) (N := none) #[true, true, true, true, true, true, true, true, true, true, true, true, true, true, false, false] rfl rfl (one_of HT_.out (by kernel_rfl)) (by decide) (fun K hK => ?_)
               refine skip_ (w1 := ?_) (by rfl) rfl ?_ ?_
               rotate_left
               ·
                go_simp
                rfl
               refine hK.out _ _ ?_
               clear hK K
               refine pure_ (i := 14) (N := some 117) (v := ?_) (a' := ?_) #[true, true, true, true, true, true, true, true, true, true, true, true, true, true, true, false] rfl rfl (any_of HT_.out (by kernel_rfl)) (fun _ _ _ h => h) (Or.inl ⟨by rfl, ?_⟩) ?_ ?_
               rotate_left
               ·
                intro w'
                go_simp
                with_reducible rfl
               rotate_left
               ·
                simp only [Act.put, List.setIfInBounds_toArray, List.set_cons_zero, List.set_cons_succ, i64_w, i32_w]
                rfl
               refine last_ (i := 15) (N := none) #[true, true, true, true, true, true, true, true, true, true, true, true, true, true, true, true] rfl rfl (one_of HT_.out (by kernel_rfl)) (by decide) (fun K hK => ?_)
               obtain ⟨u0_, hu0_⟩ := cell?_setCell_some (p := ⟨go73, (t288 : Int).toNat * 3, none⟩) (x := .int .i64 ((rd_T39 y281 t289).f0)) hx296_0
               obtain ⟨u1_, hu1_⟩ := cell?_setCell_some (p := ⟨go73, (t288 : Int).toNat * 3, none⟩) (x := .int .i64 ((rd_T39 y281 t289).f0)) hx296_1
               obtain ⟨u2_, hu2_⟩ := cell?_setCell_some (p := ⟨go73, (t288 : Int).toNat * 3 + 1, none⟩) (x := .int .i64 ((rd_T39 y281 t289).f1)) hu1_
               obtain ⟨u3_, hu3_⟩ := cell?_setCell_some (p := ⟨go73, (t288 : Int).toNat * 3, none⟩) (x := .int .i64 ((rd_T39 y281 t289).f0)) hx296_2
               obtain ⟨u4_, hu4_⟩ := cell?_setCell_some (p := ⟨go73, (t288 : Int).toNat * 3 + 1, none⟩) (x := .int .i64 ((rd_T39 y281 t289).f1)) hu3_
               obtain ⟨u5_, hu5_⟩ := cell?_setCell_some (p := ⟨go73, (t288 : Int).toNat * 3 + 2, none⟩) (x := .int .i64 ((rd_T39 y281 t289).f2)) hu4_
               refine skip_ (w1 := ?_) (by rfl) rfl ?_ ?_
               rotate_left
               ·
                go_simp
                rfl
               refine hK.out _ _ ?_
               clear hK K
               refine done_ (done_of HT_.out (by kernel_rfl)) ?_
               try go_wp2
               go_meet
               case rel => exact ⟨_, (y299), H', ⟨by have := HJ12.out; first | omega | exact Nat.le_refl _⟩, ⟨by (with_reducible repeat (first | apply Kd.R_alloc | apply Kd.R_drewN | apply Kd.R_drew)); exact Kd.R_mono (Kd.R_far (p := ⟨go73, (t289 : Int).toNat * 3 + 2, none⟩) (Kd.R_far (p := ⟨go73, (t289 : Int).toNat * 3 + 1, none⟩) (Kd.R_far (p := ⟨go73, (t289 : Int).toNat * 3, none⟩) (Kd.R_far (p := ⟨go73, (t288 : Int).toNat * 3 + 2, none⟩) (Kd.R_far (p := ⟨go73, (t288 : Int).toNat * 3 + 1, none⟩) (Kd.R_far (p := ⟨go73, (t288 : Int).toNat * 3, none⟩) (Kd.R_types HO_17.out GG73.out (by decide)) (fun _ hk => hk.2) (.int .i64 ((rd_T39 y281 t289).f0))) (fun _ hk => hk.2) (.int .i64 ((rd_T39 y281 t289).f1))) (fun _ hk => hk.2) (.int .i64 ((rd_T39 y281 t289).f2))) (fun _ hk => hk.2) (.int .i64 ((rd_T39 y281 t288).f0))) (fun _ hk => hk.2) (.int .i64 ((rd_T39 y281 t288).f1))) (fun _ hk => hk.2) (.int .i64 ((rd_T39 y281 t288).f2))) (fun _ hk => trivial)⟩, ⟨by (with_reducible repeat (first | apply Kd.R_alloc | apply Kd.R_drewN | apply Kd.R_drew)); exact Kd.R_mono HQ77.out (fun _ hk => trivial)⟩, ⟨by (with_reducible repeat (first | apply Kd.R_alloc | apply Kd.R_drewN | apply Kd.R_drew)); exact Kd.R_mono (Kd.R_far (p := ⟨go73, (t289 : Int).toNat * 3 + 2, none⟩) (Kd.R_far (p := ⟨go73, (t289 : Int).toNat * 3 + 1, none⟩) (Kd.R_far (p := ⟨go73, (t289 : Int).toNat * 3, none⟩) (Kd.R_far (p := ⟨go73, (t288 : Int).toNat * 3 + 2, none⟩) (Kd.R_far (p := ⟨go73, (t288 : Int).toNat * 3 + 1, none⟩) (Kd.R_far (p := ⟨go73, (t288 : Int).toNat * 3, none⟩) (Kd.R_types HO_270000.out GG73.out (by decide)) (fun _ hk => hk.2) (.int .i64 ((rd_T39 y281 t289).f0))) (fun _ hk => hk.2) (.int .i64 ((rd_T39 y281 t289).f1))) (fun _ hk => hk.2) (.int .i64 ((rd_T39 y281 t289).f2))) (fun _ hk => hk.2) (.int .i64 ((rd_T39 y281 t288).f0))) (fun _ hk => hk.2) (.int .i64 ((rd_T39 y281 t288).f1))) (fun _ hk => hk.2) (.int .i64 ((rd_T39 y281 t288).f2))) (fun _ hk => trivial)⟩, ⟨by (with_reducible repeat (first | refine blk_drewN ?_ _ | refine blk_drew ?_ | refine blk_alloc ?_ _)); refine blk_far ?_ (by have h_ := Kd.R_ne HO283.out BK269.out (by decide); intro e_; exact h_ (by rw [e_]; rfl)) _; (with_reducible repeat (first | refine blk_drewN ?_ _ | refine blk_drew ?_ | refine blk_alloc ?_ _)); refine blk_far ?_ (by have h_ := Kd.R_ne HO283.out BK269.out (by decide); intro e_; exact h_ (by rw [e_]; rfl)) _; (with_reducible repeat (first | refine blk_drewN ?_ _ | refine blk_drew ?_ | refine blk_alloc ?_ _)); refine blk_far ?_ (by have h_ := Kd.R_ne HO283.out BK269.out (by decide); intro e_; exact h_ (by rw [e_]; rfl)) _; (with_reducible repeat (first | refine blk_drewN ?_ _ | refine blk_drew ?_ | refine blk_alloc ?_ _)); refine blk_far ?_ (by have h_ := Kd.R_ne HO283.out BK269.out (by decide); intro e_; exact h_ (by rw [e_]; rfl)) _; (with_reducible repeat (first | refine blk_drewN ?_ _ | refine blk_drew ?_ | refine blk_alloc ?_ _)); refine blk_far ?_ (by have h_ := Kd.R_ne HO283.out BK269.out (by decide); intro e_; exact h_ (by rw [e_]; rfl)) _; (with_reducible repeat (first | refine blk_drewN ?_ _ | refine blk_drew ?_ | refine blk_alloc ?_ _)); refine blk_far ?_ (by have h_ := Kd.R_ne HO283.out BK269.out (by decide); intro e_; exact h_ (by rw [e_]; rfl)) _; (with_reducible repeat (first | refine blk_drewN ?_ _ | refine blk_drew ?_ | refine blk_alloc ?_ _)); exact BK269.out⟩, ⟨by repeat (first | (with_reducible first | exact HB.out | apply below_alloc | apply pw_below_drewN | apply below_drew1 | refine below_set ?_ GB73.out | refine below_set ?_ GB73.out | refine below_set ?_ GB73.out | refine below_set ?_ GB73.out | refine below_set ?_ GB73.out | refine below_set ?_ GB73.out | refine below_set ?_ GE269.out) | exact HB.out)⟩⟩
              ·
               rw [if_neg c72] at H
               exact absurd H (by simp)
             ·
              rw [if_neg c71] at H
              exact absurd H (by simp)
            ·
             rw [if_neg c70] at H
             exact absurd H (by simp)
           ·
            rw [if_neg c69] at H
            exact absurd H (by simp)
          ·
           rw [if_neg c68] at H
           have c68b0 : (t290 == 2) = false := beq_eq_false_iff_ne.mpr c68
           have c68b1 : (t290 != 2) = true := bne_iff_ne.mpr c68
           by_cases c78 : t290 = 3
           ·
            rw [if_pos c78] at H
            have c78b0 : (t290 == 3) = true := beq_iff_eq.mpr c78
            have c78b1 : (t290 != 3) = false := bne_eq_false_iff_eq.mpr c78
            clear c78
            by_cases c79 : 0 ≤ t288
            ·
             rw [if_pos c79] at H
             have c79b0 := eq_true c79
             have c79b1 : decide (0 ≤ t288) = true := decide_eq_true c79
             clear c79
             by_cases c80 : t288 ≤ (y281.length : Int)
             ·
              rw [if_pos c80] at H
              have c80b0 := eq_true c80
              have c80b1 : decide (t288 ≤ (y281.length : Int)) = true := decide_eq_true c80
              clear c80
              obtain ⟨y300, hy300⟩ : ∃ y_ : List (S39), y_ = (y281.take (t288 : Int).toNat) := ⟨_, rfl⟩
              replace H : (if 0 ≤ (wrap64 (t288 + 1)) then (if (wrap64 (t288 + 1)) ≤ (y281.length : Int) then (dialtonelaw34_RecoveryChecks.j1 kj12 a5 t270 (y281.eraseIdx (t288 : Int).toNat) t288 t289 t265 t268) else (none)) else (none)) = some r := by first | (rw [hy300]; with_reducible exact H) | (have H2_ := (Option.bind_some _ _).symm.trans H; rw [hy300]; with_reducible exact H2_) | (have H2_ := (Option.bind_some _ _).symm.trans H; with_reducible exact H2_) | with_reducible exact H | (rw [hy300]; exact H) | exact H
              have Ny300 := Aside0.mk hy300
              clear hy300
              obtain ⟨ji81, hji81⟩ : ∃ j_ : Int, (wrap64 (t288 + 1)) = j_ := ⟨_, rfl⟩
              replace H : (if 0 ≤ (ji81) then (if (ji81) ≤ (y281.length : Int) then (dialtonelaw34_RecoveryChecks.j1 kj12 a5 t270 (y281.eraseIdx (t288 : Int).toNat) t288 t289 t265 t268) else (none)) else (none)) = some r := by first | (rw [hji81] at H; exact H) | (simp only [hji81] at H ⊢; exact H)
              have hji81w : (IntKind.i64.wrap (t288 + 1)) = ji81 := (i64_w _).trans hji81
              by_cases c82 : 0 ≤ (ji81)
              ·
               rw [if_pos c82] at H
               have c82b0 := eq_true c82
               have c82b1 : decide (0 ≤ (ji81)) = true := decide_eq_true c82
               clear c82
               by_cases c83 : (ji81) ≤ (y281.length : Int)
               ·
                rw [if_pos c83] at H
                have c83b0 := eq_true c83
                have c83b1 : decide ((ji81) ≤ (y281.length : Int)) = true := decide_eq_true c83
                clear c83
                obtain ⟨y304, hy304⟩ : ∃ y_ : List (S39), y_ = (y281.drop ((ji81) : Int).toNat) := ⟨_, rfl⟩
                replace H : (dialtonelaw34_RecoveryChecks.j1 kj12 a5 t270 (y281.eraseIdx (t288 : Int).toNat) t288 t289 t265 t268) = some r := by first | (rw [hy304]; with_reducible exact H) | (have H2_ := (Option.bind_some _ _).symm.trans H; rw [hy304]; with_reducible exact H2_) | (have H2_ := (Option.bind_some _ _).symm.trans H; with_reducible exact H2_) | with_reducible exact H | (rw [hy304]; exact H) | exact H
                have Ny304 := Aside0.mk hy304
                clear hy304
                obtain ⟨y308, hy308⟩ : ∃ y_ : List (S39), y_ = (y281.eraseIdx (t288 : Int).toNat) := ⟨_, rfl⟩
                replace H : (dialtonelaw34_RecoveryChecks.j1 kj12 a5 t270 y308 t288 t289 t265 t268) = some r := by first | (rw [hy308]; with_reducible exact H) | (have H2_ := (Option.bind_some _ _).symm.trans H; rw [hy308]; with_reducible exact H2_) | (have H2_ := (Option.bind_some _ _).symm.trans H; with_reducible exact H2_) | with_reducible exact H | (rw [hy308]; exact H) | exact H
                have Ny308 := Aside0.mk hy308
                clear hy308
                have H' := Aside0.mk H
                clear H
                try go_wp2
                have n0_ := Aside0.mk (Kd.R_drew HO_17.out)
                have n1_ := Aside0.mk (Kd.R_drew HO_18.out)
                have n2_ := Aside0.mk (Kd.R_drew HO_270000.out)
                have n3_ := Aside0.mk (Kd.R_drew HO283.out)
                have n4_ := Aside0.mk (blk_drew BK269.out)
                have n5_ := Aside0.mk (below_drew1 HB.out)
                clear HO_17
                clear HO_18
                clear HO_270000
                clear HO283
                clear BK269
                clear HB
                have HO_17 := n0_
                have HO_18 := n1_
                have HO_270000 := n2_
                have HO283 := n3_
                have BK269 := n4_
                have HB := n5_
                clear n0_ n1_ n2_ n3_ n4_ n5_
                have q85 : (t288 : Int) ≤ ((y281.length : Int) : Int) := of_decide_eq_true (by first | (with_reducible assumption) | assumption)
                obtain ⟨i085, hi085, _, hsz85, _⟩ := info_parts info39
                have hroom85 : y281.length ≤ co50 := (Kd.R_reads' HO283.out).2.1
                have hC85 : Kd.C k39 _ Ao50 y281.length y281 := (Kd.R_reads' HO283.out).2.2
                have hcut85 := cut_to (P := Try.prog) 30 39 .i64 Try.underlying30 hi085 Ao50 y281.length co50 t288 (of_decide_eq_true (by first | (with_reducible assumption) | assumption)) q85 hroom85
                have hr85 := Kd.C_take (m := (t288 : Int).toNat) hC85 (by omega)
                have hy85 : y300.length = (t288 : Int).toNat := (by rw [Ny300.out, List.length_take]; omega)
                rw [← Ny300.out] at hr85
                rw [← hy85] at hcut85
                have HR303 := Aside0.mk hr85
                have HC303 := Aside0.mk (show y300.length ≤ co50 from by omega)
                clear hr85 hC85 hroom85 hi085 hsz85
                have KY85 := Aside0.mk hy85
                clear hy85
                have KL85 := Aside0.mk (show (t288 : Int).toNat ≤ y281.length from by omega)
                replace q85 := eq_true q85
                have q86 : ((ji81) : Int) ≤ ((y281.length : Int) : Int) := of_decide_eq_true (by first | (with_reducible assumption) | assumption)
                obtain ⟨i086, hi086, _, hsz86, _⟩ := info_parts info39
                have hroom86 : y281.length ≤ co50 := (Kd.R_reads' HO283.out).2.1
                have hC86 : Kd.C k39 _ Ao50 y281.length y281 := (Kd.R_reads' HO283.out).2.2
                have q086 : (0 : Int) ≤ ((ji81) : Int) := of_decide_eq_true (by first | (with_reducible assumption) | assumption)
                have hcut86 := cut_from (P := Try.prog) 30 39 .i64 Try.underlying30 hi086 3 hsz86 Ao50 y281.length co50 (ji81) q086 q86
                have hr86 := Kd.C_drop (m := ((ji81) : Int).toNat) (c := co50) hC86 (by omega) hroom86
                obtain ⟨A86, hA86⟩ : ∃ A1, A1 = (if co50 = ((ji81) : Int).toNat then Ao50 else (Ao50 : Option Addr).map (·.add (((ji81) : Int).toNat * 3))) := ⟨_, rfl⟩
                obtain ⟨c86, hc86⟩ : ∃ c1, c1 = co50 - ((ji81) : Int).toNat := ⟨_, rfl⟩
                have hy86 : y304.length = y281.length - ((ji81) : Int).toNat := (by rw [Ny304.out, List.length_drop] <;> omega)
                rw [show (y281).drop ((ji81) : Int).toNat = y304 from Ny304.out.symm] at hr86
                replace hr86 : Kd.C k39 _ A86 y304.length y304 := (by rw [hA86]; exact hr86)
                rw [← hy86, ← hA86, ← hc86] at hcut86
                have HR307 := Aside0.mk hr86
                have HC307 := Aside0.mk (show y304.length ≤ c86 from by rw [hy86, hc86]; exact Nat.sub_le_sub_right hroom86 _)
                clear hr86 hC86 hroom86 hi086 hsz86 hc86
                have KY86 := Aside0.mk hy86
                have KA86 := Aside0.mk hA86
                clear hy86 hA86
                have KL86 := Aside0.mk (show ((ji81) : Int).toNat ≤ y281.length from by omega)
                replace q86 := eq_true q86
                obtain ⟨go88, co88, eo88, gb88, gl88, cl88, HG88⟩ := Kd.R_form HO283.out (by have hj_ : 0 ≤ (t288 : Int) := of_decide_eq_true (by first | (with_reducible assumption) | assumption); have hl_ : (ji81 : Int) ≤ (y281.length : Int) := of_decide_eq_true (by first | (with_reducible assumption) | assumption); have hh_ : (t288 : Int) ≤ (y281.length : Int) := of_decide_eq_true (by first | (with_reducible assumption) | assumption); rw [← hji81] at hl_; unfold wrap64 at hl_; omega)
                (first | cases eo88 | (injection eo88 with ea_ en_ ec_; (first | subst ea_ | (injection ea_ with ea_; subst ea_)); subst ec_; clear en_))
                have GB88 := Aside0.mk gb88
                have GG88 := Aside0.mk HG88
                clear gb88 gl88 HG88
                refine start_ (n := 9) (S := fun w' => True) (ds := []) #[false, false, false, false, false, false, false, false, false] (by kernel_rfl) rfl rfl trivial (fun hHeld => ?_); refine with_tabW dialtonelaw34_RecoveryChecks.tab23 dialtonelaw34_RecoveryChecks.bits23 (fun HT_ HW_ => ?_)
                generalize w53.drew = w84 at HO_17 HO_18 HO_270000 HO283 BK269 HB GG88 HR303 HR307 hHeld ⊢
                refine pure_ (i := 0) (N := some 120) (v := ?_) (a' := ?_) #[true, false, false, false, false, false, false, false, false] rfl rfl (any_of HT_.out (by kernel_rfl)) (fun _ _ _ h => h) (Or.inl ⟨by rfl, ?_⟩) ?_ ?_
                rotate_left
                ·
                 intro w'
                 go_simp
                 with_reducible rfl
                rotate_left
                ·
                 simp only [Act.put, List.setIfInBounds_toArray, List.set_cons_zero, List.set_cons_succ, i64_w, i32_w]
                 rfl
                refine pure_ (i := 1) (N := some 121) (v := ?_) (a' := ?_) #[true, true, false, false, false, false, false, false, false] rfl rfl (any_of HT_.out (by kernel_rfl)) (fun _ _ _ h => h) (Or.inl ⟨by rfl, ?_⟩) ?_ ?_
                rotate_left
                ·
                 intro w'
                 go_simp
                 with_reducible rfl
                rotate_left
                ·
                 simp only [Act.put, List.setIfInBounds_toArray, List.set_cons_zero, List.set_cons_succ, i64_w, i32_w]
                 rfl
                refine pure_ (i := 2) (N := some 122) (v := ?_) (a' := ?_) #[true, true, true, false, false, false, false, false, false] rfl rfl (any_of HT_.out (by kernel_rfl)) (fun _ _ _ h => h) (Or.inl ⟨by rfl, ?_⟩) ?_ ?_
                rotate_left
                ·
                 intro w'
                 go_simp
                 with_reducible rfl
                rotate_left
                ·
                 simp only [Act.put, List.setIfInBounds_toArray, List.set_cons_zero, List.set_cons_succ, i64_w, i32_w]
                 rfl
                refine pure_ (i := 3) (N := some 123) (v := ?_) (a' := ?_) #[true, true, true, true, false, false, false, false, false] rfl rfl (any_of HT_.out (by kernel_rfl)) (fun _ _ _ h => h) (Or.inl ⟨by rfl, ?_⟩) ?_ ?_
                rotate_left
                ·
                 intro w'
                 go_simp
                 with_reducible rfl
                rotate_left
                ·
                 simp only [Act.put, List.setIfInBounds_toArray, List.set_cons_zero, List.set_cons_succ, i64_w, i32_w]
                 rfl
                refine pure_ (i := 4) (N := some 124) (v := ?_) (a' := ?_) #[true, true, true, true, true, false, false, false, false] rfl rfl (any_of HT_.out (by kernel_rfl)) (fun _ _ _ h => h) (Or.inl ⟨by rfl, ?_⟩) ?_ ?_
                rotate_left
                ·
                 intro w'
                 go_simp
                 with_reducible rfl
                rotate_left
                ·
                 simp only [Act.put, List.setIfInBounds_toArray, List.set_cons_zero, List.set_cons_succ, i64_w, i32_w]
                 rfl
                refine pure_ (i := 5) (N := some 125) (v := ?_) (a' := ?_) #[true, true, true, true, true, true, false, false, false] rfl rfl (any_of HT_.out (by kernel_rfl)) (fun _ _ _ h => h) (Or.inl ⟨by rfl, ?_⟩) ?_ ?_
                rotate_left
                ·
                 intro w'
                 go_simp
                 with_reducible rfl
                rotate_left
                ·
                 simp only [Act.put, List.setIfInBounds_toArray, List.set_cons_zero, List.set_cons_succ, i64_w, i32_w]
                 rfl
                refine pure_ (i := 6) (N := some 126) (v := ?_) (a' := ?_) #[true, true, true, true, true, true, true, false, false] rfl rfl (any_of HT_.out (by kernel_rfl)) (fun _ _ _ h => h) (Or.inl ⟨by rfl, ?_⟩) ?_ ?_
                rotate_left
                ·
                 intro w'
                 go_simp
                 with_reducible rfl
                rotate_left
                ·
                 simp only [Act.put, List.setIfInBounds_toArray, List.set_cons_zero, List.set_cons_succ, i64_w, i32_w]
                 rfl
                refine one_ (i := 7) (N := some 127) #[true, true, true, true, true, true, true, true, false] rfl rfl (one_of HT_.out (by kernel_rfl)) (by decide) (fun K hK => ?_)
                have hj_ : 0 ≤ (t288 : Int) := of_decide_eq_true (by first | (with_reducible assumption) | assumption)
                have hl_ : (ji81 : Int) ≤ (y281.length : Int) := of_decide_eq_true (by first | (with_reducible assumption) | assumption)
                have hh_ : (t288 : Int) ≤ (y281.length : Int) := of_decide_eq_true (by first | (with_reducible assumption) | assumption)
                have hb_ := (Kd.R_reads' HO283.out).2.2.2.1
                have h0_ : (0 : Int) ≤ (ji81 : Int) := of_decide_eq_true (by first | (with_reducible assumption) | assumption)
                have hy1_ := KY85.out
                have hk_ : (ji81 : Int).toNat = y300.length + 1 := (by have hw_ : (ji81 : Int) = t288 + 1 := (by have h00_ := h0_; rw [← hji81] at h00_ ⊢; unfold wrap64 at h00_ ⊢; omega); rw [hw_]; omega)
                refine Kd.R_delete_step k39 (w0 := w) w.heap.size (by rfl) (.tmp 122) (.tmp 126) 30 39 rfl Try.underlying30 (by kernel_rfl) (g := go88) (n := y281.length) (c := co50) (k := y300.length) rfl rfl ?hA ?hm (by (with_reducible repeat (first | apply Kd.R_alloc | apply Kd.R_drewN | apply Kd.R_drew)); exact HO283.out) ?hk (by repeat (first | (with_reducible first | exact HB.out | apply below_alloc | apply pw_below_drewN | apply below_drew1 | refine below_set ?_ GE269.out) | exact HB.out)) (below_size (by repeat (first | (with_reducible first | exact HB.out | apply below_alloc | apply pw_below_drewN | apply below_drew1 | refine below_set ?_ GE269.out) | exact HB.out))) ?_
                (case hA => have ha_ := KA86.out; rw [hk_] at ha_; exact ha_)
                (case hm => have ha_ := KY86.out; omega)
                (case hk => omega)
                intro w87 ho hb hg
                clear hj_ hl_ hh_ hb_ hk_ h0_
                rw [hy1_, ← Ny308.out] at ho
                clear hy1_
                have hn_ : y281.length - 1 = y308.length := (by have := (Kd.R_reads' ho).1; omega)
                rw [hn_] at ho ⊢
                clear hn_
                have n0_ := Aside0.mk (Kd.R_over' (v := (.slice (some ⟨go88, 0, none⟩) y281.length co50)) (by (with_reducible repeat (first | apply Kd.R_alloc | apply Kd.R_drewN | apply Kd.R_drew)); exact HO_17.out) (Kd.R_typed HO283.out) (by decide) hg)
                have n1_ := Aside0.mk (Kd.R_after (v := (.slice (some ⟨go88, 0, none⟩) y281.length co50)) (v1 := .slice (some ⟨go88, 0, none⟩) y308.length co50) (ok := (fun _ => True)) (by (with_reducible repeat (first | apply Kd.R_alloc | apply Kd.R_drewN | apply Kd.R_drew)); exact HO_18.out) hg (.inl rfl))
                have n2_ := Aside0.mk (Kd.R_over' (v := (.slice (some ⟨go88, 0, none⟩) y281.length co50)) (by (with_reducible repeat (first | apply Kd.R_alloc | apply Kd.R_drewN | apply Kd.R_drew)); exact HO_270000.out) (Kd.R_typed HO283.out) (by decide) hg)
                have n3_ := Aside0.mk (blk_grown (g := gb269) (o := .cells #[.slice Ao17 t265.length co17, .int .i64 t268] 26 (0, 0)) (by (with_reducible repeat (first | refine blk_drewN ?_ _ | refine blk_drew ?_ | refine blk_alloc ?_ _)); exact BK269.out) hg (Kd.R_ne HO283.out BK269.out (by decide)))
                have n4_ := Aside0.mk (ho)
                have n5_ := Aside0.mk (hb)
                clear HO_17
                clear HO_18
                clear HO_270000
                clear BK269
                clear HO283
                clear HB
                have HO_17 := n0_
                have HO_18 := n1_
                have HO_270000 := n2_
                have BK269 := n3_
                have HO283 := n4_
                have HB := n5_
                clear n0_ n1_ n2_ n3_ n4_ n5_
                clear ho hb hg
                refine hK.out _ _ trivial (fun hHeld => ?_)
                clear hK K
                refine norm_ (a' := ?_) ?_ ?_
                rotate_left
                ·
                 show Act.put _ (some 127) _ = _
                 simp only [Act.put, List.setIfInBounds_toArray, List.set_cons_zero, List.set_cons_succ, i64_w, i32_w]
                 rfl
                refine pure_ (i := 8) (N := some 20) (v := ?_) (a' := ?_) #[true, true, true, true, true, true, true, true, true] rfl rfl (any_of HT_.out (by kernel_rfl)) (fun _ _ _ h => h) (Or.inl ⟨by rfl, ?_⟩) ?_ ?_
                rotate_left
                ·
                 intro w'
                 go_simp
                 with_reducible rfl
                rotate_left
                ·
                 simp only [Act.put, List.setIfInBounds_toArray, List.set_cons_zero, List.set_cons_succ, i64_w, i32_w]
                 rfl
                refine done_ (done_of HT_.out (by kernel_rfl)) ?_
                try go_wp2
                go_meet
                case rel => exact ⟨_, (y308), H', ⟨by have := HJ12.out; first | omega | exact Nat.le_refl _⟩, ⟨by (with_reducible repeat (first | apply Kd.R_alloc | apply Kd.R_drewN | apply Kd.R_drew)); exact HO_17.out⟩, ⟨by (with_reducible repeat (first | apply Kd.R_alloc | apply Kd.R_drewN | apply Kd.R_drew)); exact Kd.R_mono HO283.out (fun _ hk => trivial)⟩, ⟨by (with_reducible repeat (first | apply Kd.R_alloc | apply Kd.R_drewN | apply Kd.R_drew)); exact HO_270000.out⟩, ⟨by (with_reducible repeat (first | refine blk_drewN ?_ _ | refine blk_drew ?_ | refine blk_alloc ?_ _)); exact BK269.out⟩, ⟨by repeat (first | (with_reducible first | exact HB.out | apply below_alloc | apply pw_below_drewN | apply below_drew1 | refine below_set ?_ GE269.out) | exact HB.out)⟩⟩
               ·
                rw [if_neg c83] at H
                exact absurd H (by simp)
              ·
               rw [if_neg c82] at H
               exact absurd H (by simp)
             ·
              rw [if_neg c80] at H
              exact absurd H (by simp)
            ·
             rw [if_neg c79] at H
             exact absurd H (by simp)
           ·
            rw [if_neg c78] at H
            have c78b0 : (t290 == 3) = false := beq_eq_false_iff_ne.mpr c78
            have c78b1 : (t290 != 3) = true := bne_iff_ne.mpr c78
            by_cases c89 : 0 ≤ t288
            ·
             rw [if_pos c89] at H
             have c89b0 : decide (0 ≤ t288) = true := decide_eq_true c89
             clear c89
             by_cases c90 : t288 < (y281.length : Int)
             ·
              rw [if_pos c90] at H
              have c90b0 : decide (t288 < (y281.length : Int)) = true := decide_eq_true c90
              clear c90
              by_cases c91 : y281.length < 5864062014805
              ·
               rw [if_pos c91] at H
               have LMc91 := Aside0.mk c91
               clear c91
               obtain ⟨y312, hy312⟩ : ∃ y_ : List (S39), y_ = (y281 ++ [(⟨(rd_T39 y281 t288).f0, (rd_T39 y281 t288).f1, (rd_T39 y281 t288).f2⟩ : S39)]) := ⟨_, rfl⟩
               replace H : (dialtonelaw34_RecoveryChecks.j1 kj12 a5 t270 y312 t288 t289 t265 t268) = some r := by first | (rw [hy312]; with_reducible exact H) | (have H2_ := (Option.bind_some _ _).symm.trans H; rw [hy312]; with_reducible exact H2_) | (have H2_ := (Option.bind_some _ _).symm.trans H; with_reducible exact H2_) | with_reducible exact H | (rw [hy312]; exact H) | exact H
               have Ny312 := Aside0.mk hy312
               clear hy312
               have H' := Aside0.mk H
               clear H
               have p311 : 0 ≤ (t288 : Int) := of_decide_eq_true (by first | (with_reducible assumption) | assumption)
               have q311 : t288 < (y281.length : Int) := of_decide_eq_true (by first | (with_reducible assumption) | assumption)
               obtain ⟨ad311, e311, hx311_0, hx311_1, hx311_2⟩ := at_T39 (Kd.R_reads' HO283.out).2.2 t288 p311 q311
               cases e311
               replace p311 := eq_true p311
               replace q311 := eq_true q311
               go_wp2_with (first | ((with_reducible refine gate_builtin (b := .append) (xs := #[.tmp 68, .tmp 73]) rfl ?_); at_builtin; refine Kd.R_append k39 (w0 := w) w.heap.size rfl (.tmp 68) (.tmp 73) 30 39 (.agg #[(.int .i64 0), (.int .i64 0), (.int .i64 0)]) 24 rfl Try.underlying30 info39 rfl (by decide) (by omega) (.slice (some ad311) y281.length co50) y281 (⟨(rd_T39 y281 t288).f0, (rd_T39 y281 t288).f1, (rd_T39 y281 t288).f2⟩ : S39) [.int .i64 ((rd_T39 y281 t288).f0), .int .i64 ((rd_T39 y281 t288).f1), .int .i64 ((rd_T39 y281 t288).f2)] (fun k_ => some k_ ≠ (.slice Ao49 t273.length co49 : Value).ownBlock) (fun _ => False) rfl rfl ?aP (fun _ hk => hk.elim) ?aF ?aO ?aB ?aS ?aL ?_; (case aP => exact k39_mkM _ _ _ (⟨(rd_T39 y281 t288).f0, (rd_T39 y281 t288).f1, (rd_T39 y281 t288).f2⟩ : S39)); (case aB => exact (by repeat (first | (with_reducible first | exact HB.out | apply below_alloc | apply pw_below_drewN | apply below_drew1 | refine below_set ?_ GE269.out) | exact HB.out))); (case aF => exact (fun k_ hk => Kd.fresh' (Kd.R_lt (by (with_reducible repeat (first | apply Kd.R_alloc | apply Kd.R_drewN | apply Kd.R_drew)); exact HO_18.out)) k_ hk)); (case aO => exact (by (with_reducible repeat (first | apply Kd.R_alloc | apply Kd.R_drewN | apply Kd.R_drew)); exact HO283.out)); (case aS => exact (below_size (by repeat (first | (with_reducible first | exact HB.out | apply below_alloc | apply pw_below_drewN | apply below_drew1 | refine below_set ?_ GE269.out) | exact HB.out)))); (case aL => have := LMc91.out; omega); intro v313 w92 ho hb hg hat; rw [← Ny312.out] at ho; have n0_ := Aside0.mk (Kd.R_over' (by (with_reducible repeat (first | apply Kd.R_alloc | apply Kd.R_drewN | apply Kd.R_drew)); exact HO_17.out) (Kd.R_typed (by (with_reducible repeat (first | apply Kd.R_alloc | apply Kd.R_drewN | apply Kd.R_drew)); exact HO283.out)) (by decide) hg); have n1_ := Aside0.mk (Kd.R_after (ok := (fun _ => True)) (by (with_reducible repeat (first | apply Kd.R_alloc | apply Kd.R_drewN | apply Kd.R_drew)); exact HO_18.out) hg hat); have n2_ := Aside0.mk (Kd.R_over' (by (with_reducible repeat (first | apply Kd.R_alloc | apply Kd.R_drewN | apply Kd.R_drew)); exact HO_270000.out) (Kd.R_typed (by (with_reducible repeat (first | apply Kd.R_alloc | apply Kd.R_drewN | apply Kd.R_drew)); exact HO283.out)) (by decide) hg); have n3_ := Aside0.mk (blk_grown (g := gb269) (o := .cells #[.slice Ao17 t265.length co17, .int .i64 t268] 26 (0, 0)) (by (with_reducible repeat (first | refine blk_drewN ?_ _ | refine blk_drew ?_ | refine blk_alloc ?_ _)); exact BK269.out) hg (Kd.R_ne HO283.out BK269.out (by decide))); have n4_ := Aside0.mk (hb); have n5_ := Aside0.mk (ho); clear HO_17; clear HO_18; clear HO_270000; clear BK269; clear HB; clear HO283; have HO_17 := n0_; have HO_18 := n1_; have HO_270000 := n2_; have BK269 := n3_; have HB := n4_; have HO314 := n5_; clear n0_ n1_ n2_ n3_ n4_ n5_; clear ho hb hg hat))
               go_meet
               case rel => exact ⟨_, (y312), H', ⟨by have := HJ12.out; first | omega | exact Nat.le_refl _⟩, ⟨by (with_reducible repeat (first | apply Kd.R_alloc | apply Kd.R_drewN | apply Kd.R_drew)); exact HO_17.out⟩, ⟨by (with_reducible repeat (first | apply Kd.R_alloc | apply Kd.R_drewN | apply Kd.R_drew)); exact Kd.R_mono HO314.out (fun _ hk => trivial)⟩, ⟨by (with_reducible repeat (first | apply Kd.R_alloc | apply Kd.R_drewN | apply Kd.R_drew)); exact HO_270000.out⟩, ⟨by (with_reducible repeat (first | refine blk_drewN ?_ _ | refine blk_drew ?_ | refine blk_alloc ?_ _)); exact BK269.out⟩, ⟨by repeat (first | (with_reducible first | exact HB.out | apply below_alloc | apply pw_below_drewN | apply below_drew1 | refine below_set ?_ GE269.out) | exact HB.out)⟩⟩
              ·
               rw [if_neg c91] at H
               exact absurd H (by simp)
             ·
              rw [if_neg c90] at H
              exact absurd H (by simp)
            ·
             rw [if_neg c89] at H
             exact absurd H (by simp)
       case rest =>
        clear HC45
        try clear c1
        try clear p2
        try clear q2
        try clear hx2
        try clear p3
        try clear q3
        try clear hx3
        try clear c5
        try clear c6
        try clear p6
        try clear q6
        try clear hx6
        try clear c7
        try clear p7
        try clear q7
        try clear hx7
        try clear hf7
        try clear c8
        try clear q8
        try clear c9
        try clear p29
        try clear q29
        try clear hx29
        try clear p31
        try clear q31
        try clear hx31
        try clear c54
        try clear c54b0
        try clear c54b1
        try clear c55
        try clear c56
        try clear c62
        try clear c62b0
        try clear c62b1
        try clear c63
        try clear c63b0
        try clear c64
        try clear c64b0
        try clear p64
        try clear c65
        try clear p65
        try clear q65
        try clear hx65
        try clear hf65
        try clear c66
        try clear hx66
        try clear hf66
        try clear c68
        try clear c68b0
        try clear c68b1
        try clear c69
        try clear c69b0
        try clear c70
        try clear c70b0
        try clear c71
        try clear c71b0
        try clear c72
        try clear c72b0
        try clear c73
        try clear p73
        try clear q73
        try clear hx73
        try clear hf73
        try clear c74
        try clear p74
        try clear q74
        try clear hx74
        try clear hf74
        try clear c76
        try clear c77
        try clear c78
        try clear c78b0
        try clear c78b1
        try clear c79
        try clear c79b0
        try clear c79b1
        try clear c80
        try clear c80b0
        try clear c80b1
        try clear c82
        try clear c82b0
        try clear c82b1
        try clear c83
        try clear c83b0
        try clear c83b1
        try clear q85
        try clear c86
        try clear q86
        try clear c89
        try clear c89b0
        try clear c90
        try clear c90b0
        try clear c91
        try clear hx294_0
        try clear hx294_1
        try clear hx294_2
        try clear hx296_0
        try clear hx296_1
        try clear hx296_2
        try clear hx297_0
        try clear hx297_1
        try clear hx297_2
        try clear hx311_0
        try clear hx311_1
        try clear hx311_2
        try clear hx65_0
        try clear hx65_1
        try clear hx65_2
        try clear hx66_1
        try clear hx73_0
        try clear hx73_1
        try clear hx73_2
        try clear hx74_0
        try clear hx74_1
        try clear hx74_2
        try clear p294
        try clear p296
        try clear p297
        try clear p311
        try clear p65
        try clear p73
        try clear p74
        try clear q086
        try clear q294
        try clear q296
        try clear q297
        try clear q311
        try clear q65
        try clear q73
        try clear q74
        try clear q85
        try clear q86
        obtain ⟨kq, x20_44, HA, HJ44, HO_17, HO_20, HO_270000, BK269, HB⟩ := hcut
        cases kq with
        | zero => exact absurd HA.out (by simp [dialtonelaw34_RecoveryChecks.j1])
        | succ kj44 =>
         have H := HA.out
         clear HA
         simp only [dialtonelaw34_RecoveryChecks.j1] at H
         replace H := Option.bind_eq_some_iff.mp H
         obtain ⟨t315, A930, H⟩ := H
         replace H : ((dialtonelaw34_pick.f a5 5).bind fun t316 => (if t316 = 2 then (some (t315 == (t288 == t289))) else (some (t315 == false)))) = some r := H
         have A93 := Aside0.mk A930
         clear A930
         replace H := Option.bind_eq_some_iff.mp H
         obtain ⟨t316, A940, H⟩ := H
         replace H : (if t316 = 2 then (some (t315 == (t288 == t289))) else (some (t315 == false))) = some r := H
         have A94 := Aside0.mk A940
         clear A940
         by_cases c95 : t316 = 2
         ·
          rw [if_pos c95] at H
          have c95b0 : (t316 == 2) = true := beq_iff_eq.mpr c95
          have c95b1 : (t316 != 2) = false := bne_eq_false_iff_eq.mpr c95
          clear c95
          obtain rfl := Option.some.inj H
          have hcz96_0 : wc.cell? ⟨gb269, 0, none⟩ = some (.slice Ao17 t265.length co17) := (blk_cell BK269.out 0).trans rfl
          have hcz96_1 : wc.cell? ⟨gb269, 1, none⟩ = some (.int .i64 t268) := (blk_cell BK269.out 1).trans rfl
          have hfz96_0 := blk_frozen BK269.out 0
          have hfz96_1 := blk_frozen BK269.out 1
          obtain ⟨Ao97, co97, eo97⟩ := Kd.R_slice HO_20.out
          subst eo97
          go_wp2_with (first | ((with_reducible refine gate_callee (f := 20) rfl ?_); refine goesL_ (some 131) rfl rfl Try.func20 (by kernel_rfl) rfl #[.agg #[.slice Ao17 t265.length co17, .int .i64 t268], .slice Ao21 t270.length co21, .slice Ao97 x20_44.length co97] rfl (by (try simp only [List.map_toArray, List.map_cons, List.map_nil]); first | done | rfl | (simp only [List.length_drop, List.length_take]; rfl)) ?_; (with_reducible refine (recovery_Check.calls kj44 _ _ t265 t268 _ _ t270 _ _ x20_44 t315 _ ?side1 ?side2 ?side3 ?side4 ?side5 ?side6 A93.out).mono ?_); (case side1 => repeat (first | exact (Kd.R_reads' HO_270000.out).2.2 | (with_reducible refine Kd.C_alloc ?_ _) | (with_reducible refine Kd.C_drewN ?_ _) | (with_reducible refine Kd.C_drew ?_))); (case side2 => exact (Kd.R_reads' HO_270000.out).2.1); (case side3 => repeat (first | exact (Kd.R_reads' HO_17.out).2.2 | (with_reducible refine Kd.C_alloc ?_ _) | (with_reducible refine Kd.C_drewN ?_ _) | (with_reducible refine Kd.C_drew ?_))); (case side4 => exact (Kd.R_reads' HO_17.out).2.1); (case side5 => repeat (first | exact (Kd.R_reads' HO_20.out).2.2 | (with_reducible refine Kd.C_alloc ?_ _) | (with_reducible refine Kd.C_drewN ?_ _) | (with_reducible refine Kd.C_drew ?_))); (case side6 => exact (Kd.R_reads' HO_20.out).2.1); rintro e w98 ⟨rfl, hb⟩; refine ⟨_, rfl, ?_⟩; have n0_ := Aside0.mk (Kd.R_below (by (with_reducible repeat (first | apply Kd.R_alloc | apply Kd.R_drewN | apply Kd.R_drew)); exact HO_17.out) hb); have n1_ := Aside0.mk (Kd.R_below (by (with_reducible repeat (first | apply Kd.R_alloc | apply Kd.R_drewN | apply Kd.R_drew)); exact HO_20.out) hb); have n2_ := Aside0.mk (Kd.R_below (by (with_reducible repeat (first | apply Kd.R_alloc | apply Kd.R_drewN | apply Kd.R_drew)); exact HO_270000.out) hb); have n3_ := Aside0.mk (blk_below (g := gb269) (o := .cells #[.slice Ao17 t265.length co17, .int .i64 t268] 26 (0, 0)) (by (with_reducible repeat (first | refine blk_drewN ?_ _ | refine blk_drew ?_ | refine blk_alloc ?_ _)); exact BK269.out) hb); have n4_ := Aside0.mk (below_step (by repeat (first | (with_reducible first | exact HB.out | apply below_alloc | apply pw_below_drewN | apply below_drew1 | refine below_set ?_ GE269.out) | exact HB.out)) hb); clear HO_17; clear HO_20; clear HO_270000; clear BK269; clear HB; have HO_17 := n0_; have HO_20 := n1_; have HO_270000 := n2_; have BK269 := n3_; have HB := n4_; clear n0_ n1_ n2_ n3_ n4_; (try clear hb); (try clear hb2); (try clear hk); (try clear hi)) | ((with_reducible refine gate_callee (f := 18) rfl ?_); refine goesL_ (some 133) rfl rfl Try.func18 (by kernel_rfl) rfl #[.int .i64 a5, .int .i64 5] rfl (by (try simp only [List.map_toArray, List.map_cons, List.map_nil]); first | done | rfl | (simp only [List.length_drop, List.length_take]; rfl)) ?_; (with_reducible refine (dialtonelaw34_pick.calls a5 5 t316 _ A94.out).mono ?_); rintro e w99 ⟨rfl, hb⟩; refine ⟨_, rfl, ?_⟩; have n0_ := Aside0.mk (Kd.R_below (by (with_reducible repeat (first | apply Kd.R_alloc | apply Kd.R_drewN | apply Kd.R_drew)); exact HO_17.out) hb); have n1_ := Aside0.mk (Kd.R_below (by (with_reducible repeat (first | apply Kd.R_alloc | apply Kd.R_drewN | apply Kd.R_drew)); exact HO_20.out) hb); have n2_ := Aside0.mk (Kd.R_below (by (with_reducible repeat (first | apply Kd.R_alloc | apply Kd.R_drewN | apply Kd.R_drew)); exact HO_270000.out) hb); have n3_ := Aside0.mk (blk_below (g := gb269) (o := .cells #[.slice Ao17 t265.length co17, .int .i64 t268] 26 (0, 0)) (by (with_reducible repeat (first | refine blk_drewN ?_ _ | refine blk_drew ?_ | refine blk_alloc ?_ _)); exact BK269.out) hb); have n4_ := Aside0.mk (below_step (by repeat (first | (with_reducible first | exact HB.out | apply below_alloc | apply pw_below_drewN | apply below_drew1 | refine below_set ?_ GE269.out) | exact HB.out)) hb); clear HO_17; clear HO_20; clear HO_270000; clear BK269; clear HB; have HO_17 := n0_; have HO_20 := n1_; have HO_270000 := n2_; have BK269 := n3_; have HB := n4_; clear n0_ n1_ n2_ n3_ n4_; (try clear hb); (try clear hb2); (try clear hk); (try clear hi)))
          go_ret
          exact ⟨by first | rfl | (simp [errW_none, errW_some] <;> rfl) | (simp [*, errW_none, errW_some] <;> rfl), by repeat (first | (with_reducible first | exact HB.out | apply below_alloc | apply pw_below_drewN | apply below_drew1 | refine below_set ?_ GE269.out) | exact HB.out)⟩
         ·
          rw [if_neg c95] at H
          have c95b0 : (t316 == 2) = false := beq_eq_false_iff_ne.mpr c95
          have c95b1 : (t316 != 2) = true := bne_iff_ne.mpr c95
          obtain rfl := Option.some.inj H
          have hcz100_0 : wc.cell? ⟨gb269, 0, none⟩ = some (.slice Ao17 t265.length co17) := (blk_cell BK269.out 0).trans rfl
          have hcz100_1 : wc.cell? ⟨gb269, 1, none⟩ = some (.int .i64 t268) := (blk_cell BK269.out 1).trans rfl
          have hfz100_0 := blk_frozen BK269.out 0
          have hfz100_1 := blk_frozen BK269.out 1
          obtain ⟨Ao101, co101, eo101⟩ := Kd.R_slice HO_20.out
          subst eo101
          go_wp2_with (first | ((with_reducible refine gate_callee (f := 20) rfl ?_); refine goesL_ (some 131) rfl rfl Try.func20 (by kernel_rfl) rfl #[.agg #[.slice Ao17 t265.length co17, .int .i64 t268], .slice Ao21 t270.length co21, .slice Ao101 x20_44.length co101] rfl (by (try simp only [List.map_toArray, List.map_cons, List.map_nil]); first | done | rfl | (simp only [List.length_drop, List.length_take]; rfl)) ?_; (with_reducible refine (recovery_Check.calls kj44 _ _ t265 t268 _ _ t270 _ _ x20_44 t315 _ ?side1 ?side2 ?side3 ?side4 ?side5 ?side6 A93.out).mono ?_); (case side1 => repeat (first | exact (Kd.R_reads' HO_270000.out).2.2 | (with_reducible refine Kd.C_alloc ?_ _) | (with_reducible refine Kd.C_drewN ?_ _) | (with_reducible refine Kd.C_drew ?_))); (case side2 => exact (Kd.R_reads' HO_270000.out).2.1); (case side3 => repeat (first | exact (Kd.R_reads' HO_17.out).2.2 | (with_reducible refine Kd.C_alloc ?_ _) | (with_reducible refine Kd.C_drewN ?_ _) | (with_reducible refine Kd.C_drew ?_))); (case side4 => exact (Kd.R_reads' HO_17.out).2.1); (case side5 => repeat (first | exact (Kd.R_reads' HO_20.out).2.2 | (with_reducible refine Kd.C_alloc ?_ _) | (with_reducible refine Kd.C_drewN ?_ _) | (with_reducible refine Kd.C_drew ?_))); (case side6 => exact (Kd.R_reads' HO_20.out).2.1); rintro e w102 ⟨rfl, hb⟩; refine ⟨_, rfl, ?_⟩; have n0_ := Aside0.mk (Kd.R_below (by (with_reducible repeat (first | apply Kd.R_alloc | apply Kd.R_drewN | apply Kd.R_drew)); exact HO_17.out) hb); have n1_ := Aside0.mk (Kd.R_below (by (with_reducible repeat (first | apply Kd.R_alloc | apply Kd.R_drewN | apply Kd.R_drew)); exact HO_20.out) hb); have n2_ := Aside0.mk (Kd.R_below (by (with_reducible repeat (first | apply Kd.R_alloc | apply Kd.R_drewN | apply Kd.R_drew)); exact HO_270000.out) hb); have n3_ := Aside0.mk (blk_below (g := gb269) (o := .cells #[.slice Ao17 t265.length co17, .int .i64 t268] 26 (0, 0)) (by (with_reducible repeat (first | refine blk_drewN ?_ _ | refine blk_drew ?_ | refine blk_alloc ?_ _)); exact BK269.out) hb); have n4_ := Aside0.mk (below_step (by repeat (first | (with_reducible first | exact HB.out | apply below_alloc | apply pw_below_drewN | apply below_drew1 | refine below_set ?_ GE269.out) | exact HB.out)) hb); clear HO_17; clear HO_20; clear HO_270000; clear BK269; clear HB; have HO_17 := n0_; have HO_20 := n1_; have HO_270000 := n2_; have BK269 := n3_; have HB := n4_; clear n0_ n1_ n2_ n3_ n4_; (try clear hb); (try clear hb2); (try clear hk); (try clear hi)) | ((with_reducible refine gate_callee (f := 18) rfl ?_); refine goesL_ (some 133) rfl rfl Try.func18 (by kernel_rfl) rfl #[.int .i64 a5, .int .i64 5] rfl (by (try simp only [List.map_toArray, List.map_cons, List.map_nil]); first | done | rfl | (simp only [List.length_drop, List.length_take]; rfl)) ?_; (with_reducible refine (dialtonelaw34_pick.calls a5 5 t316 _ A94.out).mono ?_); rintro e w103 ⟨rfl, hb⟩; refine ⟨_, rfl, ?_⟩; have n0_ := Aside0.mk (Kd.R_below (by (with_reducible repeat (first | apply Kd.R_alloc | apply Kd.R_drewN | apply Kd.R_drew)); exact HO_17.out) hb); have n1_ := Aside0.mk (Kd.R_below (by (with_reducible repeat (first | apply Kd.R_alloc | apply Kd.R_drewN | apply Kd.R_drew)); exact HO_20.out) hb); have n2_ := Aside0.mk (Kd.R_below (by (with_reducible repeat (first | apply Kd.R_alloc | apply Kd.R_drewN | apply Kd.R_drew)); exact HO_270000.out) hb); have n3_ := Aside0.mk (blk_below (g := gb269) (o := .cells #[.slice Ao17 t265.length co17, .int .i64 t268] 26 (0, 0)) (by (with_reducible repeat (first | refine blk_drewN ?_ _ | refine blk_drew ?_ | refine blk_alloc ?_ _)); exact BK269.out) hb); have n4_ := Aside0.mk (below_step (by repeat (first | (with_reducible first | exact HB.out | apply below_alloc | apply pw_below_drewN | apply below_drew1 | refine below_set ?_ GE269.out) | exact HB.out)) hb); clear HO_17; clear HO_20; clear HO_270000; clear BK269; clear HB; have HO_17 := n0_; have HO_20 := n1_; have HO_270000 := n2_; have BK269 := n3_; have HB := n4_; clear n0_ n1_ n2_ n3_ n4_; (try clear hb); (try clear hb2); (try clear hk); (try clear hi)))
          go_ret
          exact ⟨by first | rfl | (simp [errW_none, errW_some] <;> rfl) | (simp [*, errW_none, errW_some] <;> rfl), by repeat (first | (with_reducible first | exact HB.out | apply below_alloc | apply pw_below_drewN | apply below_drew1 | refine below_set ?_ GE269.out) | exact HB.out)⟩
     ·
      rw [if_neg c29] at H
      exact absurd H (by simp)
 ·
  replace c9 := Bool.eq_false_iff.mpr c9
  subst c9
  have H1 : (none) = some r := by rw [if_neg (show ¬ (false = true) by decide)] at H; exact H
  clear H
  have H := H1
  clear H1
  exact absurd H (by simp)

end Go.Proofs.Ytcldldmedphcfaa.C
