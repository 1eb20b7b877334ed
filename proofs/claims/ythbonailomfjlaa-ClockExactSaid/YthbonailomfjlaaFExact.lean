-- Written for this claim by a program of this session (wip/tools/hprint.py) out of the translation. Lean checks it.
import Derived.Test.YthbonailomfjlaaCKinds
import Derived.Test.YthbonailomfjlaaCSpread
import Derived.Test.YthbonailomfjlaaCSane
import Derived.Test.YthbonailomfjlaaHPick
namespace Go.Proofs.Ythbonailomfjlaa.C
open Go.RowKit Go.Proofs.YthbonailomfjlaaW.PrintWords Go.Proofs.YthbonailomfjlaaW.PrintLast Go.Proofs.YthbonailomfjlaaW.PrintMore
attribute [local go_sem] max2_int min2_int max_two min_two max_three min_three max_four min_four   -- for this text's walks alone
set_option linter.unusedVariables false
set_option linter.unusedSimpArgs false

/-! ### dialtonelaw05_ClockExact: function 5 -/
mutual
def dialtonelaw05_ClockExact.j0 : Nat → Int → Int → Int → Int → Int → Int → Int → Bool → Option (Bool)
  | 0, _, _, _, _, _, _, _, _ => none
  | k + 1, x1, x2, x3, x4, x12, x13, x14, x53 => if x53 = true then (none) else ((dialtonelaw05_pick.f x4 20000000).bind fun t293 => ((dialtonelaw05_pick.f x4 (wrap64 ((wrap64 (x14 - x13)) + 1))).bind fun t294 => (dialtonelaw05_ClockExact.l0 k x1 x2 x3 x12 x13 x14 (([wrap64 (x13 - 1), x13, x14, wrap64 (x14 + 1), t293, wrap64 (x13 + t294)] : List Int)) 0)))
def dialtonelaw05_ClockExact.l0 : Nat → Int → Int → Int → Int → Int → Int → List Int → Int → Option (Bool)
  | 0, _, _, _, _, _, _, _, _ => none
  | k + 1, x1, x2, x3, x12, x13, x14, x15, x16 => if x16 < (x15.length : Int) then (if 0 ≤ x16 then (if (rd x15 x16) ≥ 0 then (if (wrap64 ((wrap64 ((wrap64 (1000 - x12)) * (rd x15 x16))) - 1000)) < (wrap64 (1000 * x2)) then (dialtonelaw05_ClockExact.j2 k x1 x2 x3 x12 x13 x14 x15 x16 (decide ((wrap64 (1000 * x2)) < (wrap64 ((wrap64 ((wrap64 (1000 + x12)) * (rd x15 x16))) + 1000))))) else (dialtonelaw05_ClockExact.j2 k x1 x2 x3 x12 x13 x14 x15 x16 false)) else (dialtonelaw05_ClockExact.j2 k x1 x2 x3 x12 x13 x14 x15 x16 false)) else (none)) else ((clock_Spread.f k 0 x2).bind fun bt303 => ((clock_Spread.f k x12 x3).bind fun bt305 => ((dialtonelaw05_pick.f x1 (wrap64 (101 - x12))).bind fun t307 => ((clock_Spread.f k (wrap64 (x12 + t307)) x2).bind fun bt308 => (if bt303.1 = x2 then (if bt303.2 = x2 then (if bt305.1 ≥ x13 then (if bt305.2 ≥ x14 then (if bt308.1 ≤ x13 then (some (decide (bt308.2 ≥ x14))) else (none)) else (none)) else (none)) else (none)) else (none))))))
def dialtonelaw05_ClockExact.j2 : Nat → Int → Int → Int → Int → Int → Int → List Int → Int → Bool → Option (Bool)
  | 0, _, _, _, _, _, _, _, _, _ => none
  | k + 1, x1, x2, x3, x12, x13, x14, x15, x16, x17 => if 0 ≤ x16 then (if x16 < (x15.length : Int) then (if (rd x15 x16) ≥ x13 then (dialtonelaw05_ClockExact.j3 k x1 x2 x3 x12 x13 x14 x15 x16 (x17 != (decide ((rd x15 x16) ≤ x14)))) else (dialtonelaw05_ClockExact.j3 k x1 x2 x3 x12 x13 x14 x15 x16 (x17 != false))) else (none)) else (none)
def dialtonelaw05_ClockExact.j3 : Nat → Int → Int → Int → Int → Int → Int → List Int → Int → Bool → Option (Bool)
  | 0, _, _, _, _, _, _, _, _, _ => none
  | k + 1, x1, x2, x3, x12, x13, x14, x15, x16, x123 => if x123 = true then (none) else (dialtonelaw05_ClockExact.l0 k x1 x2 x3 x12 x13 x14 x15 (wrap64 (x16 + 1)))
end
def dialtonelaw05_ClockExact.f (k : Nat) (a0 : Int) (a1 : Int) (a2 : Int) (a3 : Int) (a4 : Int) : Option (Bool) := (dialtonelaw05_sane.f k).bind fun t287 => (if t287 = true then ((dialtonelaw05_pick.f a0 101).bind fun t288 => ((dialtonelaw05_pick.f a2 10000001).bind fun t289 => ((dialtonelaw05_pick.f a3 (wrap64 (10000001 - t289))).bind fun t290 => ((clock_Spread.f k t288 t289).bind fun bt291 => (if bt291.1 < 0 then (dialtonelaw05_ClockExact.j0 k a1 t289 (wrap64 (t289 + t290)) a4 t288 bt291.1 bt291.2 true) else (if bt291.2 < bt291.1 then (dialtonelaw05_ClockExact.j0 k a1 t289 (wrap64 (t289 + t290)) a4 t288 bt291.1 bt291.2 true) else (dialtonelaw05_ClockExact.j0 k a1 t289 (wrap64 (t289 + t290)) a4 t288 bt291.1 bt291.2 (decide (bt291.2 > 20000000))))))))) else (none))
theorem dialtonelaw05_ClockExact.mono_l : ∀ k, (∀ y0 y1 y2 y3 y4 y5 y6 y7, LeO (dialtonelaw05_ClockExact.j0 k y0 y1 y2 y3 y4 y5 y6 y7) (dialtonelaw05_ClockExact.j0 (k + 1) y0 y1 y2 y3 y4 y5 y6 y7)) ∧ (∀ y0 y1 y2 y3 y4 y5 y6 y7, LeO (dialtonelaw05_ClockExact.l0 k y0 y1 y2 y3 y4 y5 y6 y7) (dialtonelaw05_ClockExact.l0 (k + 1) y0 y1 y2 y3 y4 y5 y6 y7)) ∧ (∀ y0 y1 y2 y3 y4 y5 y6 y7 y8, LeO (dialtonelaw05_ClockExact.j2 k y0 y1 y2 y3 y4 y5 y6 y7 y8) (dialtonelaw05_ClockExact.j2 (k + 1) y0 y1 y2 y3 y4 y5 y6 y7 y8)) ∧ (∀ y0 y1 y2 y3 y4 y5 y6 y7 y8, LeO (dialtonelaw05_ClockExact.j3 k y0 y1 y2 y3 y4 y5 y6 y7 y8) (dialtonelaw05_ClockExact.j3 (k + 1) y0 y1 y2 y3 y4 y5 y6 y7 y8))
  | 0 => ⟨fun _ _ _ _ _ _ _ _ r h => by simp [dialtonelaw05_ClockExact.j0] at h, fun _ _ _ _ _ _ _ _ r h => by simp [dialtonelaw05_ClockExact.l0] at h, fun _ _ _ _ _ _ _ _ _ r h => by simp [dialtonelaw05_ClockExact.j2] at h, fun _ _ _ _ _ _ _ _ _ r h => by simp [dialtonelaw05_ClockExact.j3] at h⟩
  | k + 1 => by
    obtain ⟨ih0, ih1, ih2, ih3⟩ := dialtonelaw05_ClockExact.mono_l k
    refine ⟨?_, ?_, ?_, ?_⟩
    · intro y0 y1 y2 y3 y4 y5 y6 y7
      unfold dialtonelaw05_ClockExact.j0
      repeat' first
      | (with_reducible exact ih0 _ _ _ _ _ _ _ _)
      | (with_reducible exact ih1 _ _ _ _ _ _ _ _)
      | (with_reducible exact ih2 _ _ _ _ _ _ _ _ _)
      | (with_reducible exact ih3 _ _ _ _ _ _ _ _ _)
      | (with_reducible exact clock_Spread.mono _ _ _)
      | (with_reducible exact dialtonelaw05_sane.mono _)
      | (with_reducible exact LeO.refl _)
      | (with_reducible exact LeO.none _)
      | (with_reducible refine LeO.ite ?_ ?_)
      | (with_reducible refine LeO.bind ?_ (fun _ => ?_))
      | exact ih0 _ _ _ _ _ _ _ _
      | exact ih1 _ _ _ _ _ _ _ _
      | exact ih2 _ _ _ _ _ _ _ _ _
      | exact ih3 _ _ _ _ _ _ _ _ _
      | exact clock_Spread.mono _ _ _
      | exact dialtonelaw05_sane.mono _
      | exact LeO.none _
      | refine LeO.ite ?_ ?_
      | refine LeO.bind ?_ (fun _ => ?_)
    · intro y0 y1 y2 y3 y4 y5 y6 y7
      unfold dialtonelaw05_ClockExact.l0
      repeat' first
      | (with_reducible exact ih0 _ _ _ _ _ _ _ _)
      | (with_reducible exact ih1 _ _ _ _ _ _ _ _)
      | (with_reducible exact ih2 _ _ _ _ _ _ _ _ _)
      | (with_reducible exact ih3 _ _ _ _ _ _ _ _ _)
      | (with_reducible exact clock_Spread.mono _ _ _)
      | (with_reducible exact dialtonelaw05_sane.mono _)
      | (with_reducible exact LeO.refl _)
      | (with_reducible exact LeO.none _)
      | (with_reducible refine LeO.ite ?_ ?_)
      | (with_reducible refine LeO.bind ?_ (fun _ => ?_))
      | exact ih0 _ _ _ _ _ _ _ _
      | exact ih1 _ _ _ _ _ _ _ _
      | exact ih2 _ _ _ _ _ _ _ _ _
      | exact ih3 _ _ _ _ _ _ _ _ _
      | exact clock_Spread.mono _ _ _
      | exact dialtonelaw05_sane.mono _
      | exact LeO.none _
      | refine LeO.ite ?_ ?_
      | refine LeO.bind ?_ (fun _ => ?_)
    · intro y0 y1 y2 y3 y4 y5 y6 y7 y8
      unfold dialtonelaw05_ClockExact.j2
      repeat' first
      | (with_reducible exact ih0 _ _ _ _ _ _ _ _)
      | (with_reducible exact ih1 _ _ _ _ _ _ _ _)
      | (with_reducible exact ih2 _ _ _ _ _ _ _ _ _)
      | (with_reducible exact ih3 _ _ _ _ _ _ _ _ _)
      | (with_reducible exact clock_Spread.mono _ _ _)
      | (with_reducible exact dialtonelaw05_sane.mono _)
      | (with_reducible exact LeO.refl _)
      | (with_reducible exact LeO.none _)
      | (with_reducible refine LeO.ite ?_ ?_)
      | (with_reducible refine LeO.bind ?_ (fun _ => ?_))
      | exact ih0 _ _ _ _ _ _ _ _
      | exact ih1 _ _ _ _ _ _ _ _
      | exact ih2 _ _ _ _ _ _ _ _ _
      | exact ih3 _ _ _ _ _ _ _ _ _
      | exact clock_Spread.mono _ _ _
      | exact dialtonelaw05_sane.mono _
      | exact LeO.none _
      | refine LeO.ite ?_ ?_
      | refine LeO.bind ?_ (fun _ => ?_)
    · intro y0 y1 y2 y3 y4 y5 y6 y7 y8
      unfold dialtonelaw05_ClockExact.j3
      repeat' first
      | (with_reducible exact ih0 _ _ _ _ _ _ _ _)
      | (with_reducible exact ih1 _ _ _ _ _ _ _ _)
      | (with_reducible exact ih2 _ _ _ _ _ _ _ _ _)
      | (with_reducible exact ih3 _ _ _ _ _ _ _ _ _)
      | (with_reducible exact clock_Spread.mono _ _ _)
      | (with_reducible exact dialtonelaw05_sane.mono _)
      | (with_reducible exact LeO.refl _)
      | (with_reducible exact LeO.none _)
      | (with_reducible refine LeO.ite ?_ ?_)
      | (with_reducible refine LeO.bind ?_ (fun _ => ?_))
      | exact ih0 _ _ _ _ _ _ _ _
      | exact ih1 _ _ _ _ _ _ _ _
      | exact ih2 _ _ _ _ _ _ _ _ _
      | exact ih3 _ _ _ _ _ _ _ _ _
      | exact clock_Spread.mono _ _ _
      | exact dialtonelaw05_sane.mono _
      | exact LeO.none _
      | refine LeO.ite ?_ ?_
      | refine LeO.bind ?_ (fun _ => ?_)
theorem dialtonelaw05_ClockExact.mono : ∀ a0 a1 a2 a3 a4 k, LeO (dialtonelaw05_ClockExact.f k a0 a1 a2 a3 a4) (dialtonelaw05_ClockExact.f (k + 1) a0 a1 a2 a3 a4) := by
  intro a0 a1 a2 a3 a4 k
  obtain ⟨ih0, ih1, ih2, ih3⟩ := dialtonelaw05_ClockExact.mono_l k
  unfold dialtonelaw05_ClockExact.f
  repeat' first
      | (with_reducible exact ih0 _ _ _ _ _ _ _ _)
      | (with_reducible exact ih1 _ _ _ _ _ _ _ _)
      | (with_reducible exact ih2 _ _ _ _ _ _ _ _ _)
      | (with_reducible exact ih3 _ _ _ _ _ _ _ _ _)
      | (with_reducible exact clock_Spread.mono _ _ _)
      | (with_reducible exact dialtonelaw05_sane.mono _)
      | (with_reducible exact LeO.refl _)
      | (with_reducible exact LeO.none _)
      | (with_reducible refine LeO.ite ?_ ?_)
      | (with_reducible refine LeO.bind ?_ (fun _ => ?_))
      | exact ih0 _ _ _ _ _ _ _ _
      | exact ih1 _ _ _ _ _ _ _ _
      | exact ih2 _ _ _ _ _ _ _ _ _
      | exact ih3 _ _ _ _ _ _ _ _ _
      | exact clock_Spread.mono _ _ _
      | exact dialtonelaw05_sane.mono _
      | exact LeO.none _
      | refine LeO.ite ?_ ?_
      | refine LeO.bind ?_ (fun _ => ?_)
set_option maxHeartbeats 8000000 in
set_option maxRecDepth 100000 in
theorem dialtonelaw05_ClockExact.calls (k : Nat) (a0 : Int) (a1 : Int) (a2 : Int) (a3 : Int) (a4 : Int) (r : Bool) (w : World) (h : dialtonelaw05_ClockExact.f k a0 a1 a2 a3 a4 = some r) :
    Calls Try.prog 5 #[.int .i64 a0, .int .i64 a1, .int .i64 a2, .int .i64 a3, .int .i64 a4] w fun e w' => e = .returned (.bool r) ∧ Below w.heap.size w w' := by
  have HB := Aside0.mk (Below.refl w.heap.size w)
  have H : ((dialtonelaw05_sane.f k).bind fun t287 => (if t287 = true then ((dialtonelaw05_pick.f a0 101).bind fun t288 => ((dialtonelaw05_pick.f a2 10000001).bind fun t289 => ((dialtonelaw05_pick.f a3 (wrap64 (10000001 - t289))).bind fun t290 => ((clock_Spread.f k t288 t289).bind fun bt291 => (if bt291.1 < 0 then (dialtonelaw05_ClockExact.j0 k a1 t289 (wrap64 (t289 + t290)) a4 t288 bt291.1 bt291.2 true) else (if bt291.2 < bt291.1 then (dialtonelaw05_ClockExact.j0 k a1 t289 (wrap64 (t289 + t290)) a4 t288 bt291.1 bt291.2 true) else (dialtonelaw05_ClockExact.j0 k a1 t289 (wrap64 (t289 + t290)) a4 t288 bt291.1 bt291.2 (decide (bt291.2 > 20000000))))))))) else (none))) = some r := h
  clear h
  replace H := Option.bind_eq_some_iff.mp H
  obtain ⟨t287, A60, H⟩ := H
  replace H : (if t287 = true then ((dialtonelaw05_pick.f a0 101).bind fun t288 => ((dialtonelaw05_pick.f a2 10000001).bind fun t289 => ((dialtonelaw05_pick.f a3 (wrap64 (10000001 - t289))).bind fun t290 => ((clock_Spread.f k t288 t289).bind fun bt291 => (if bt291.1 < 0 then (dialtonelaw05_ClockExact.j0 k a1 t289 (wrap64 (t289 + t290)) a4 t288 bt291.1 bt291.2 true) else (if bt291.2 < bt291.1 then (dialtonelaw05_ClockExact.j0 k a1 t289 (wrap64 (t289 + t290)) a4 t288 bt291.1 bt291.2 true) else (dialtonelaw05_ClockExact.j0 k a1 t289 (wrap64 (t289 + t290)) a4 t288 bt291.1 bt291.2 (decide (bt291.2 > 20000000))))))))) else (none)) = some r := H
  have A6 := Aside0.mk A60
  clear A60
  by_cases c7 : t287 = true
  · subst c7
    have H1 : ((dialtonelaw05_pick.f a0 101).bind fun t288 => ((dialtonelaw05_pick.f a2 10000001).bind fun t289 => ((dialtonelaw05_pick.f a3 (wrap64 (10000001 - t289))).bind fun t290 => ((clock_Spread.f k t288 t289).bind fun bt291 => (if bt291.1 < 0 then (dialtonelaw05_ClockExact.j0 k a1 t289 (wrap64 (t289 + t290)) a4 t288 bt291.1 bt291.2 true) else (if bt291.2 < bt291.1 then (dialtonelaw05_ClockExact.j0 k a1 t289 (wrap64 (t289 + t290)) a4 t288 bt291.1 bt291.2 true) else (dialtonelaw05_ClockExact.j0 k a1 t289 (wrap64 (t289 + t290)) a4 t288 bt291.1 bt291.2 (decide (bt291.2 > 20000000))))))))) = some r := by rw [if_pos rfl] at H; exact H
    clear H
    have H := H1
    clear H1
    replace H := Option.bind_eq_some_iff.mp H
    obtain ⟨t288, A80, H⟩ := H
    replace H : ((dialtonelaw05_pick.f a2 10000001).bind fun t289 => ((dialtonelaw05_pick.f a3 (wrap64 (10000001 - t289))).bind fun t290 => ((clock_Spread.f k t288 t289).bind fun bt291 => (if bt291.1 < 0 then (dialtonelaw05_ClockExact.j0 k a1 t289 (wrap64 (t289 + t290)) a4 t288 bt291.1 bt291.2 true) else (if bt291.2 < bt291.1 then (dialtonelaw05_ClockExact.j0 k a1 t289 (wrap64 (t289 + t290)) a4 t288 bt291.1 bt291.2 true) else (dialtonelaw05_ClockExact.j0 k a1 t289 (wrap64 (t289 + t290)) a4 t288 bt291.1 bt291.2 (decide (bt291.2 > 20000000)))))))) = some r := H
    have A8 := Aside0.mk A80
    clear A80
    replace H := Option.bind_eq_some_iff.mp H
    obtain ⟨t289, A90, H⟩ := H
    replace H : ((dialtonelaw05_pick.f a3 (wrap64 (10000001 - t289))).bind fun t290 => ((clock_Spread.f k t288 t289).bind fun bt291 => (if bt291.1 < 0 then (dialtonelaw05_ClockExact.j0 k a1 t289 (wrap64 (t289 + t290)) a4 t288 bt291.1 bt291.2 true) else (if bt291.2 < bt291.1 then (dialtonelaw05_ClockExact.j0 k a1 t289 (wrap64 (t289 + t290)) a4 t288 bt291.1 bt291.2 true) else (dialtonelaw05_ClockExact.j0 k a1 t289 (wrap64 (t289 + t290)) a4 t288 bt291.1 bt291.2 (decide (bt291.2 > 20000000))))))) = some r := H
    have A9 := Aside0.mk A90
    clear A90
    replace H := Option.bind_eq_some_iff.mp H
    obtain ⟨t290, A100, H⟩ := H
    replace H : ((clock_Spread.f k t288 t289).bind fun bt291 => (if bt291.1 < 0 then (dialtonelaw05_ClockExact.j0 k a1 t289 (wrap64 (t289 + t290)) a4 t288 bt291.1 bt291.2 true) else (if bt291.2 < bt291.1 then (dialtonelaw05_ClockExact.j0 k a1 t289 (wrap64 (t289 + t290)) a4 t288 bt291.1 bt291.2 true) else (dialtonelaw05_ClockExact.j0 k a1 t289 (wrap64 (t289 + t290)) a4 t288 bt291.1 bt291.2 (decide (bt291.2 > 20000000)))))) = some r := H
    have A10 := Aside0.mk A100
    clear A100
    replace H := Option.bind_eq_some_iff.mp H
    obtain ⟨⟨t291, t292⟩, A110, H⟩ := H
    replace H : (if t291 < 0 then (dialtonelaw05_ClockExact.j0 k a1 t289 (wrap64 (t289 + t290)) a4 t288 t291 t292 true) else (if t292 < t291 then (dialtonelaw05_ClockExact.j0 k a1 t289 (wrap64 (t289 + t290)) a4 t288 t291 t292 true) else (dialtonelaw05_ClockExact.j0 k a1 t289 (wrap64 (t289 + t290)) a4 t288 t291 t292 (decide (t292 > 20000000))))) = some r := H
    have A11 := Aside0.mk A110
    clear A110
    have HC12 := Aside0.mk H
    clear H
    go_enter Try.func5, Try.ntmps5
    go_upto_region 8 with (first | ((with_reducible refine gate_callee (f := 10) rfl ?_); refine goesL_ (some 24) rfl rfl Try.func10 (by kernel_rfl) rfl #[] rfl (by (try simp only [List.map_toArray, List.map_cons, List.map_nil]); first | done | rfl | (simp only [List.length_drop, List.length_take]; rfl)) ?_; (with_reducible refine (dialtonelaw05_sane.calls k  true _ A6.out).mono ?_); rintro e w13 ⟨rfl, hb⟩; refine ⟨_, rfl, ?_⟩; have n0_ := Aside0.mk (below_step (by repeat (first | (with_reducible first | exact HB.out | apply below_alloc | apply pw_below_drewN | apply below_drew1) | exact HB.out)) hb); clear HB; have HB := n0_; clear n0_; (try clear hb); (try clear hb2); (try clear hk); (try clear hi)) | ((with_reducible refine gate_callee (f := 19) rfl ?_); refine goesL_ (some 28) rfl rfl Try.func19 (by kernel_rfl) rfl #[.int .i64 a0, .int .i64 101] rfl (by (try simp only [List.map_toArray, List.map_cons, List.map_nil]); first | done | rfl | (simp only [List.length_drop, List.length_take]; rfl)) ?_; (with_reducible refine (dialtonelaw05_pick.calls a0 101 t288 _ A8.out).mono ?_); rintro e w14 ⟨rfl, hb⟩; refine ⟨_, rfl, ?_⟩; have n0_ := Aside0.mk (below_step (by repeat (first | (with_reducible first | exact HB.out | apply below_alloc | apply pw_below_drewN | apply below_drew1) | exact HB.out)) hb); clear HB; have HB := n0_; clear n0_; (try clear hb); (try clear hb2); (try clear hk); (try clear hi)) | ((with_reducible refine gate_callee (f := 19) rfl ?_); refine goesL_ (some 30) rfl rfl Try.func19 (by kernel_rfl) rfl #[.int .i64 a2, .int .i64 10000001] rfl (by (try simp only [List.map_toArray, List.map_cons, List.map_nil]); first | done | rfl | (simp only [List.length_drop, List.length_take]; rfl)) ?_; (with_reducible refine (dialtonelaw05_pick.calls a2 10000001 t289 _ A9.out).mono ?_); rintro e w15 ⟨rfl, hb⟩; refine ⟨_, rfl, ?_⟩; have n0_ := Aside0.mk (below_step (by repeat (first | (with_reducible first | exact HB.out | apply below_alloc | apply pw_below_drewN | apply below_drew1) | exact HB.out)) hb); clear HB; have HB := n0_; clear n0_; (try clear hb); (try clear hb2); (try clear hk); (try clear hi)) | ((with_reducible refine gate_callee (f := 19) rfl ?_); refine goesL_ (some 35) rfl rfl Try.func19 (by kernel_rfl) rfl #[.int .i64 a3, .int .i64 (wrap64 (10000001 - t289))] rfl (by (try simp only [List.map_toArray, List.map_cons, List.map_nil]); first | done | rfl | (simp only [List.length_drop, List.length_take]; rfl)) ?_; (with_reducible refine (dialtonelaw05_pick.calls a3 (wrap64 (10000001 - t289)) t290 _ A10.out).mono ?_); rintro e w16 ⟨rfl, hb⟩; refine ⟨_, rfl, ?_⟩; have n0_ := Aside0.mk (below_step (by repeat (first | (with_reducible first | exact HB.out | apply below_alloc | apply pw_below_drewN | apply below_drew1) | exact HB.out)) hb); clear HB; have HB := n0_; clear n0_; (try clear hb); (try clear hb2); (try clear hk); (try clear hi)) | ((with_reducible refine gate_callee (f := 11) rfl ?_); refine goesL_ (some 40) rfl rfl Try.func11 (by kernel_rfl) rfl #[.int .i64 t288, .int .i64 t289] rfl (by (try simp only [List.map_toArray, List.map_cons, List.map_nil]); first | done | rfl | (simp only [List.length_drop, List.length_take]; rfl)) ?_; (with_reducible refine (clock_Spread.calls k t288 t289 t291 t292 _ A11.out).mono ?_); rintro e w' ⟨rfl, ⟨nd, rfl⟩⟩; refine ⟨_, rfl, ?_⟩))
    (try simp only [Act.put, List.setIfInBounds_toArray, List.set_cons_zero, List.set_cons_succ])
    go_cut [53] (fun v53 wc => ∃ (kq : Nat) (x53_11 : Bool), v53 = .bool x53_11 ∧ Aside0 (dialtonelaw05_ClockExact.j0 kq a1 t289 (wrap64 (t289 + t290)) a4 t288 t291 t292 x53_11 = some r) ∧ Aside0 (kq ≤ k) ∧ Aside0 (Below w.heap.size w wc))
    case first =>
      have H := HC12.out
      clear HC12
      by_cases c17 : t291 < 0
      · rw [if_pos c17] at H
        have c17b0 : decide (t291 < 0) = true := decide_eq_true c17
        clear c17
        (first | rw [c17b0] | (simp only [i64_w, i32_w]; rw [c17b0]) | skip)
        have H' := Aside0.mk H
        clear H
        go_wp2
        go_meet
        case rel => exact ⟨_, (true), (by first | rfl | (simp; done) | (simp [*]; done)), H', ⟨by first | omega | exact Nat.le_refl _⟩, ⟨by repeat (first | (with_reducible first | exact HB.out | apply below_alloc | apply pw_below_drewN | apply below_drew1) | exact HB.out)⟩⟩
      · rw [if_neg c17] at H
        have c17b0 : decide (t291 < 0) = false := decide_eq_false c17
        clear c17
        (first | rw [c17b0] | (simp only [i64_w, i32_w]; rw [c17b0]) | skip)
        by_cases c18 : t292 < t291
        · rw [if_pos c18] at H
          have c18b0 : decide (t292 < t291) = true := decide_eq_true c18
          clear c18
          have H' := Aside0.mk H
          clear H
          go_wp2
          go_meet
          case rel => exact ⟨_, (true), (by first | rfl | (simp; done) | (simp [*]; done)), H', ⟨by first | omega | exact Nat.le_refl _⟩, ⟨by repeat (first | (with_reducible first | exact HB.out | apply below_alloc | apply pw_below_drewN | apply below_drew1) | exact HB.out)⟩⟩
        · rw [if_neg c18] at H
          have c18b0 : decide (t292 < t291) = false := decide_eq_false c18
          clear c18
          have H' := Aside0.mk H
          clear H
          go_wp2
          go_meet
          case rel => exact ⟨_, (decide (t292 > 20000000)), (by first | rfl | (simp; done) | (simp [*]; done)), H', ⟨by first | omega | exact Nat.le_refl _⟩, ⟨by repeat (first | (with_reducible first | exact HB.out | apply below_alloc | apply pw_below_drewN | apply below_drew1) | exact HB.out)⟩⟩
    case rest =>
      clear HC12
      try clear c1
      try clear p2
      try clear c5
      try clear p6
      try clear c7
      try clear c10
      try clear c11
      try clear c17
      try clear c17b0
      try clear c18
      try clear c18b0
      obtain ⟨kq, x53_11, rfl, HA, HJ11, HB⟩ := hcut
      cases kq with
      | zero => exact absurd HA.out (by simp [dialtonelaw05_ClockExact.j0])
      | succ kj11 =>
        have H := HA.out
        clear HA
        simp only [dialtonelaw05_ClockExact.j0] at H
        by_cases c19 : x53_11 = true
        · subst c19
          have H1 : (none) = some r := by rw [if_pos rfl] at H; exact H
          clear H
          have H := H1
          clear H1
          exact absurd H (by simp)
        · replace c19 := Bool.eq_false_iff.mpr c19
          subst c19
          have H1 : ((dialtonelaw05_pick.f a4 20000000).bind fun t293 => ((dialtonelaw05_pick.f a4 (wrap64 ((wrap64 (t292 - t291)) + 1))).bind fun t294 => (dialtonelaw05_ClockExact.l0 kj11 a1 t289 (wrap64 (t289 + t290)) t288 t291 t292 (([wrap64 (t291 - 1), t291, t292, wrap64 (t292 + 1), t293, wrap64 (t291 + t294)] : List Int)) 0))) = some r := by rw [if_neg (show ¬ (false = true) by decide)] at H; exact H
          clear H
          have H := H1
          clear H1
          replace H := Option.bind_eq_some_iff.mp H
          obtain ⟨t293, A200, H⟩ := H
          replace H : ((dialtonelaw05_pick.f a4 (wrap64 ((wrap64 (t292 - t291)) + 1))).bind fun t294 => (dialtonelaw05_ClockExact.l0 kj11 a1 t289 (wrap64 (t289 + t290)) t288 t291 t292 (([wrap64 (t291 - 1), t291, t292, wrap64 (t292 + 1), t293, wrap64 (t291 + t294)] : List Int)) 0)) = some r := H
          have A20 := Aside0.mk A200
          clear A200
          replace H := Option.bind_eq_some_iff.mp H
          obtain ⟨t294, A210, H⟩ := H
          replace H : (dialtonelaw05_ClockExact.l0 kj11 a1 t289 (wrap64 (t289 + t290)) t288 t291 t292 (([wrap64 (t291 - 1), t291, t292, wrap64 (t292 + 1), t293, wrap64 (t291 + t294)] : List Int)) 0) = some r := H
          have A21 := Aside0.mk A210
          clear A210
          obtain ⟨y295, hy295⟩ : ∃ y_ : List Int, y_ = (([wrap64 (t291 - 1), t291, t292, wrap64 (t292 + 1), t293, wrap64 (t291 + t294)] : List Int)) := ⟨_, rfl⟩
          replace H : (dialtonelaw05_ClockExact.l0 kj11 a1 t289 (wrap64 (t289 + t290)) t288 t291 t292 y295 0) = some r := by first | (rw [hy295]; with_reducible exact H) | (have H2_ := (Option.bind_some _ _).symm.trans H; rw [hy295]; with_reducible exact H2_) | (have H2_ := (Option.bind_some _ _).symm.trans H; with_reducible exact H2_) | with_reducible exact H | (rw [hy295]; exact H) | exact H
          have Ny295 := Aside0.mk hy295
          clear hy295
          have H' := Aside0.mk H
          clear H
          go_wp2_with (first | ((with_reducible refine gate_callee (f := 19) rfl ?_); refine goesL_ (some 61) rfl rfl Try.func19 (by kernel_rfl) rfl #[.int .i64 a4, .int .i64 20000000] rfl (by (try simp only [List.map_toArray, List.map_cons, List.map_nil]); first | done | rfl | (simp only [List.length_drop, List.length_take]; rfl)) ?_; (with_reducible refine (dialtonelaw05_pick.calls a4 20000000 t293 _ A20.out).mono ?_); rintro e w22 ⟨rfl, hb⟩; refine ⟨_, rfl, ?_⟩; have n0_ := Aside0.mk (below_step (by repeat (first | (with_reducible first | exact HB.out | apply below_alloc | apply pw_below_drewN | apply below_drew1) | exact HB.out)) hb); clear HB; have HB := n0_; clear n0_; (try clear hb); (try clear hb2); (try clear hk); (try clear hi)) | ((with_reducible refine gate_callee (f := 19) rfl ?_); refine goesL_ (some 68) rfl rfl Try.func19 (by kernel_rfl) rfl #[.int .i64 a4, .int .i64 (wrap64 ((wrap64 (t292 - t291)) + 1))] rfl (by (try simp only [List.map_toArray, List.map_cons, List.map_nil]); first | done | rfl | (simp only [List.length_drop, List.length_take]; rfl)) ?_; (with_reducible refine (dialtonelaw05_pick.calls a4 (wrap64 ((wrap64 (t292 - t291)) + 1)) t294 _ A21.out).mono ?_); rintro e w23 ⟨rfl, hb⟩; refine ⟨_, rfl, ?_⟩; have n0_ := Aside0.mk (below_step (by repeat (first | (with_reducible first | exact HB.out | apply below_alloc | apply pw_below_drewN | apply below_drew1) | exact HB.out)) hb); clear HB; have HB := n0_; clear n0_; (try clear hb); (try clear hb2); (try clear hk); (try clear hi)) | ((with_reducible refine gate_dst (N := 70) rfl ?_); refine Kd.R_lit (Kd.int .i64) _ 3 ?hg (N := 70) ?hd (xs := ([wrap64 (t291 - 1), t291, t292, wrap64 (t292 + 1), t293, wrap64 (t291 + t294)] : List Int)) (inner := [.int .i64 (wrap64 (t291 - 1)), .int .i64 t291, .int .i64 t292, .int .i64 (wrap64 (t292 + 1)), .int .i64 t293, .int .i64 (wrap64 (t291 + t294))]) (ok := fun _ => True) (okp := fun _ => True) ?hr ?hp (fun _ hk => hk) trivial (Below.refl _ _) (Nat.le_refl _) (by simp) ?_; (case hd => rfl); (case hg => rfl); (case hr => first | (go_simp; done) | (go_simp; rfl)); (case hp => exact (Reps.one (show Kd.M (Kd.int .i64) _ _ _ (wrap64 (t291 - 1)) [.int .i64 (wrap64 (t291 - 1))] from rfl) (Reps.one (show Kd.M (Kd.int .i64) _ _ _ t291 [.int .i64 t291] from rfl) (Reps.one (show Kd.M (Kd.int .i64) _ _ _ t292 [.int .i64 t292] from rfl) (Reps.one (show Kd.M (Kd.int .i64) _ _ _ (wrap64 (t292 + 1)) [.int .i64 (wrap64 (t292 + 1))] from rfl) (Reps.one (show Kd.M (Kd.int .i64) _ _ _ t293 [.int .i64 t293] from rfl) (Reps.one (show Kd.M (Kd.int .i64) _ _ _ (wrap64 (t291 + t294)) [.int .i64 (wrap64 (t291 + t294))] from rfl) (Reps.none _ _)))))))); intro v296 w24 ho25 hb hg_ hnew_; clear hg_ hnew_; (first | rw [← Ny295.out] at ho25 | (simp only [Int.reduceToNat] at ho25; rw [← Ny295.out] at ho25)); have n0_ := Aside0.mk (Kd.R_lower ho25 (below_size (by repeat (first | (with_reducible first | exact HB.out | apply below_alloc | apply pw_below_drewN | apply below_drew1) | exact HB.out)))); have n1_ := Aside0.mk (below_step (by repeat (first | (with_reducible first | exact HB.out | apply below_alloc | apply pw_below_drewN | apply below_drew1) | exact HB.out)) hb); clear HB; have HO297 := n0_; have HB := n1_; clear n0_ n1_; clear hb ho25))
          go_loopg [16] kj11 (fun kq v16 w' => ∃ (x16_2 : Int), v16 = .int .i64 x16_2 ∧ Aside0 (dialtonelaw05_ClockExact.l0 kq a1 t289 (wrap64 (t289 + t290)) t288 t291 t292 y295 x16_2 = some r) ∧ Aside0 (kq ≤ kj11) ∧ Aside0 (Kd.R (Kd.int .i64) 3 w' w.heap.size (fun _ => True) v296 y295) ∧ Aside0 (Below w.heap.size w w'))
          case atStart => exact ⟨(0), (by first | rfl | (simp; done) | (simp [*]; done)), H', ⟨Nat.le_refl _⟩, ⟨by (with_reducible repeat (first | apply Kd.R_alloc | apply Kd.R_drewN | apply Kd.R_drew)); exact HO297.out⟩, ⟨by repeat (first | (with_reducible first | exact HB.out | apply below_alloc | apply pw_below_drewN | apply below_drew1) | exact HB.out)⟩⟩
          case round =>
            clear H'
            try clear c1
            try clear p2
            try clear c5
            try clear p6
            try clear c7
            try clear c10
            try clear c11
            try clear c17
            try clear c17b0
            try clear c18
            try clear c18b0
            try clear c19
            try clear p2
            try clear p6
            obtain ⟨x16_2, rfl, HA, HK2, HO_15, HB⟩ := hrel
            cases gk with
            | zero => exact absurd HA.out (by simp [dialtonelaw05_ClockExact.l0])
            | succ k2 =>
              have H := HA.out
              clear HA
              simp only [dialtonelaw05_ClockExact.l0] at H
              by_cases c26 : x16_2 < (y295.length : Int)
              · rw [if_pos c26] at H
                have c26b0 : decide (x16_2 < (y295.length : Int)) = true := decide_eq_true c26
                clear c26
                have HC27 := Aside0.mk H
                clear H
                obtain ⟨Ao28, co28, eo28⟩ := Kd.R_slice HO_15.out
                subst eo28
                go_upto_region 14 with (fail)
                go_cut [17] (fun v17 wc => ∃ (kq : Nat) (x17_26 : Bool), v17 = .bool x17_26 ∧ Aside0 (dialtonelaw05_ClockExact.j2 kq a1 t289 (wrap64 (t289 + t290)) t288 t291 t292 y295 x16_2 x17_26 = some r) ∧ Aside0 (kq ≤ k2) ∧ Aside0 (Kd.R (Kd.int .i64) 3 wc w.heap.size (fun _ => True) (.slice Ao28 y295.length co28) y295) ∧ Aside0 (Below w.heap.size w wc))
                case first =>
                  have H := HC27.out
                  clear HC27
                  by_cases c29 : 0 ≤ x16_2
                  · rw [if_pos c29] at H
                    have c29b0 : decide (0 ≤ x16_2) = true := decide_eq_true c29
                    clear c29
                    (first | rw [c29b0] | (simp only [i64_w, i32_w]; rw [c29b0]) | skip)
                    by_cases c30 : (rd y295 x16_2) ≥ 0
                    · rw [if_pos c30] at H
                      have c30b0 : decide (0 ≤ (rd y295 x16_2)) = true := decide_eq_true c30
                      clear c30
                      by_cases c31 : (wrap64 ((wrap64 ((wrap64 (1000 - t288)) * (rd y295 x16_2))) - 1000)) < (wrap64 (1000 * t289))
                      · rw [if_pos c31] at H
                        have c31b0 : decide ((wrap64 ((wrap64 ((wrap64 (1000 - t288)) * (rd y295 x16_2))) - 1000)) < (wrap64 (1000 * t289))) = true := decide_eq_true c31
                        clear c31
                        have H' := Aside0.mk H
                        clear H
                        have p298 : 0 ≤ (x16_2 : Int) := of_decide_eq_true (by first | (with_reducible assumption) | assumption)
                        have q298 : x16_2 < (y295.length : Int) := of_decide_eq_true (by first | (with_reducible assumption) | assumption)
                        obtain ⟨ad298, e298, hx298_0⟩ := Kd.at_int (Kd.R_reads' HO_15.out).2.2 x16_2 p298 q298
                        cases e298
                        replace p298 := eq_true p298
                        replace q298 := eq_true q298
                        have p299 : 0 ≤ (x16_2 : Int) := of_decide_eq_true (by first | (with_reducible assumption) | assumption)
                        have q299 : x16_2 < (y295.length : Int) := of_decide_eq_true (by first | (with_reducible assumption) | assumption)
                        obtain ⟨ad299, e299, hx299_0⟩ := Kd.at_int (Kd.R_reads' HO_15.out).2.2 x16_2 p299 q299
                        obtain rfl : ad298 = ad299 := (by injection e299)
                        replace p299 := eq_true p299
                        replace q299 := eq_true q299
                        have p300 : 0 ≤ (x16_2 : Int) := of_decide_eq_true (by first | (with_reducible assumption) | assumption)
                        have q300 : x16_2 < (y295.length : Int) := of_decide_eq_true (by first | (with_reducible assumption) | assumption)
                        obtain ⟨ad300, e300, hx300_0⟩ := Kd.at_int (Kd.R_reads' HO_15.out).2.2 x16_2 p300 q300
                        obtain rfl : ad298 = ad300 := (by injection e300)
                        replace p300 := eq_true p300
                        replace q300 := eq_true q300
                        go_wp2
                        go_meet
                        case rel => exact ⟨_, (decide ((wrap64 (1000 * t289)) < (wrap64 ((wrap64 ((wrap64 (1000 + t288)) * (rd y295 x16_2))) + 1000)))), (by first | rfl | (simp; done) | (simp [*]; done)), H', ⟨by have := HJ11.out; have := HK2.out; first | omega | exact Nat.le_refl _⟩, ⟨by (with_reducible repeat (first | apply Kd.R_alloc | apply Kd.R_drewN | apply Kd.R_drew)); exact HO_15.out⟩, ⟨by repeat (first | (with_reducible first | exact HB.out | apply below_alloc | apply pw_below_drewN | apply below_drew1) | exact HB.out)⟩⟩
                      · rw [if_neg c31] at H
                        have c31b0 : decide ((wrap64 ((wrap64 ((wrap64 (1000 - t288)) * (rd y295 x16_2))) - 1000)) < (wrap64 (1000 * t289))) = false := decide_eq_false c31
                        clear c31
                        have H' := Aside0.mk H
                        clear H
                        have p298 : 0 ≤ (x16_2 : Int) := of_decide_eq_true (by first | (with_reducible assumption) | assumption)
                        have q298 : x16_2 < (y295.length : Int) := of_decide_eq_true (by first | (with_reducible assumption) | assumption)
                        obtain ⟨ad298, e298, hx298_0⟩ := Kd.at_int (Kd.R_reads' HO_15.out).2.2 x16_2 p298 q298
                        cases e298
                        replace p298 := eq_true p298
                        replace q298 := eq_true q298
                        have p299 : 0 ≤ (x16_2 : Int) := of_decide_eq_true (by first | (with_reducible assumption) | assumption)
                        have q299 : x16_2 < (y295.length : Int) := of_decide_eq_true (by first | (with_reducible assumption) | assumption)
                        obtain ⟨ad299, e299, hx299_0⟩ := Kd.at_int (Kd.R_reads' HO_15.out).2.2 x16_2 p299 q299
                        obtain rfl : ad298 = ad299 := (by injection e299)
                        replace p299 := eq_true p299
                        replace q299 := eq_true q299
                        go_wp2
                        go_meet
                        case rel => exact ⟨_, (false), (by first | rfl | (simp; done) | (simp [*]; done)), H', ⟨by have := HJ11.out; have := HK2.out; first | omega | exact Nat.le_refl _⟩, ⟨by (with_reducible repeat (first | apply Kd.R_alloc | apply Kd.R_drewN | apply Kd.R_drew)); exact HO_15.out⟩, ⟨by repeat (first | (with_reducible first | exact HB.out | apply below_alloc | apply pw_below_drewN | apply below_drew1) | exact HB.out)⟩⟩
                    · rw [if_neg c30] at H
                      have c30b0 : decide (0 ≤ (rd y295 x16_2)) = false := decide_eq_false c30
                      clear c30
                      have H' := Aside0.mk H
                      clear H
                      have p298 : 0 ≤ (x16_2 : Int) := of_decide_eq_true (by first | (with_reducible assumption) | assumption)
                      have q298 : x16_2 < (y295.length : Int) := of_decide_eq_true (by first | (with_reducible assumption) | assumption)
                      obtain ⟨ad298, e298, hx298_0⟩ := Kd.at_int (Kd.R_reads' HO_15.out).2.2 x16_2 p298 q298
                      cases e298
                      replace p298 := eq_true p298
                      replace q298 := eq_true q298
                      go_wp2
                      go_meet
                      case rel => exact ⟨_, (false), (by first | rfl | (simp; done) | (simp [*]; done)), H', ⟨by have := HJ11.out; have := HK2.out; first | omega | exact Nat.le_refl _⟩, ⟨by (with_reducible repeat (first | apply Kd.R_alloc | apply Kd.R_drewN | apply Kd.R_drew)); exact HO_15.out⟩, ⟨by repeat (first | (with_reducible first | exact HB.out | apply below_alloc | apply pw_below_drewN | apply below_drew1) | exact HB.out)⟩⟩
                  · rw [if_neg c29] at H
                    exact absurd H (by simp)
                case rest =>
                  clear HC27
                  try clear c1
                  try clear c2
                  try clear p2
                  try clear q2
                  try clear hx2
                  try clear c3
                  try clear p3
                  try clear q3
                  try clear hx3
                  try clear c5
                  try clear p6
                  try clear c7
                  try clear c10
                  try clear c11
                  try clear c17
                  try clear c17b0
                  try clear c18
                  try clear c18b0
                  try clear c19
                  try clear c26
                  try clear c26b0
                  try clear c29
                  try clear c29b0
                  try clear p29
                  try clear q29
                  try clear hx29
                  try clear c30
                  try clear c30b0
                  try clear p30
                  try clear q30
                  try clear hx30
                  try clear c31
                  try clear c31b0
                  try clear hx298_0
                  try clear hx299_0
                  try clear hx300_0
                  try clear p2
                  try clear p298
                  try clear p299
                  try clear p300
                  try clear p6
                  try clear q298
                  try clear q299
                  try clear q300
                  obtain ⟨kq, x17_26, rfl, HA, HJ26, HO_15, HB⟩ := hcut
                  cases kq with
                  | zero => exact absurd HA.out (by simp [dialtonelaw05_ClockExact.j2])
                  | succ kj26 =>
                    have H := HA.out
                    clear HA
                    simp only [dialtonelaw05_ClockExact.j2] at H
                    have HC32 := Aside0.mk H
                    clear H
                    go_upto_region 15 with (fail)
                    go_cut [123] (fun v123 wc => ∃ (kq : Nat) (x123_31 : Bool), v123 = .bool x123_31 ∧ Aside0 (dialtonelaw05_ClockExact.j3 kq a1 t289 (wrap64 (t289 + t290)) t288 t291 t292 y295 x16_2 x123_31 = some r) ∧ Aside0 (kq ≤ kj26) ∧ Aside0 (Kd.R (Kd.int .i64) 3 wc w.heap.size (fun _ => True) (.slice Ao28 y295.length co28) y295) ∧ Aside0 (Below w.heap.size w wc))
                    case first =>
                      have H := HC32.out
                      clear HC32
                      by_cases c33 : 0 ≤ x16_2
                      · rw [if_pos c33] at H
                        have c33b0 : decide (0 ≤ x16_2) = true := decide_eq_true c33
                        clear c33
                        (first | rw [c33b0] | (simp only [i64_w, i32_w]; rw [c33b0]) | skip)
                        by_cases c34 : x16_2 < (y295.length : Int)
                        · rw [if_pos c34] at H
                          have c34b0 : decide (x16_2 < (y295.length : Int)) = true := decide_eq_true c34
                          clear c34
                          by_cases c35 : (rd y295 x16_2) ≥ t291
                          · rw [if_pos c35] at H
                            have c35b0 : decide (t291 ≤ (rd y295 x16_2)) = true := decide_eq_true c35
                            clear c35
                            have H' := Aside0.mk H
                            clear H
                            have p301 : 0 ≤ (x16_2 : Int) := of_decide_eq_true (by first | (with_reducible assumption) | assumption)
                            have q301 : x16_2 < (y295.length : Int) := of_decide_eq_true (by first | (with_reducible assumption) | assumption)
                            obtain ⟨ad301, e301, hx301_0⟩ := Kd.at_int (Kd.R_reads' HO_15.out).2.2 x16_2 p301 q301
                            cases e301
                            replace p301 := eq_true p301
                            replace q301 := eq_true q301
                            have p302 : 0 ≤ (x16_2 : Int) := of_decide_eq_true (by first | (with_reducible assumption) | assumption)
                            have q302 : x16_2 < (y295.length : Int) := of_decide_eq_true (by first | (with_reducible assumption) | assumption)
                            obtain ⟨ad302, e302, hx302_0⟩ := Kd.at_int (Kd.R_reads' HO_15.out).2.2 x16_2 p302 q302
                            obtain rfl : ad301 = ad302 := (by injection e302)
                            replace p302 := eq_true p302
                            replace q302 := eq_true q302
                            go_wp2
                            go_meet
                            case rel => exact ⟨_, ((x17_26 != (decide ((rd y295 x16_2) ≤ t292)))), (by first | rfl | (simp; done) | (simp [*]; done)), H', ⟨by have := HJ11.out; have := HK2.out; have := HJ26.out; first | omega | exact Nat.le_refl _⟩, ⟨by (with_reducible repeat (first | apply Kd.R_alloc | apply Kd.R_drewN | apply Kd.R_drew)); exact HO_15.out⟩, ⟨by repeat (first | (with_reducible first | exact HB.out | apply below_alloc | apply pw_below_drewN | apply below_drew1) | exact HB.out)⟩⟩
                          · rw [if_neg c35] at H
                            have c35b0 : decide (t291 ≤ (rd y295 x16_2)) = false := decide_eq_false c35
                            clear c35
                            have H' := Aside0.mk H
                            clear H
                            have p301 : 0 ≤ (x16_2 : Int) := of_decide_eq_true (by first | (with_reducible assumption) | assumption)
                            have q301 : x16_2 < (y295.length : Int) := of_decide_eq_true (by first | (with_reducible assumption) | assumption)
                            obtain ⟨ad301, e301, hx301_0⟩ := Kd.at_int (Kd.R_reads' HO_15.out).2.2 x16_2 p301 q301
                            cases e301
                            replace p301 := eq_true p301
                            replace q301 := eq_true q301
                            go_wp2
                            go_meet
                            case rel => exact ⟨_, ((x17_26 != false)), (by first | rfl | (simp; done) | (simp [*]; done)), H', ⟨by have := HJ11.out; have := HK2.out; have := HJ26.out; first | omega | exact Nat.le_refl _⟩, ⟨by (with_reducible repeat (first | apply Kd.R_alloc | apply Kd.R_drewN | apply Kd.R_drew)); exact HO_15.out⟩, ⟨by repeat (first | (with_reducible first | exact HB.out | apply below_alloc | apply pw_below_drewN | apply below_drew1) | exact HB.out)⟩⟩
                        · rw [if_neg c34] at H
                          exact absurd H (by simp)
                      · rw [if_neg c33] at H
                        exact absurd H (by simp)
                    case rest =>
                      clear HC32
                      try clear c1
                      try clear c2
                      try clear p2
                      try clear q2
                      try clear hx2
                      try clear c3
                      try clear p3
                      try clear q3
                      try clear hx3
                      try clear c5
                      try clear p6
                      try clear c7
                      try clear c10
                      try clear c11
                      try clear c17
                      try clear c17b0
                      try clear c18
                      try clear c18b0
                      try clear c19
                      try clear c26
                      try clear c26b0
                      try clear c29
                      try clear c29b0
                      try clear p29
                      try clear q29
                      try clear hx29
                      try clear c30
                      try clear c30b0
                      try clear p30
                      try clear q30
                      try clear hx30
                      try clear c31
                      try clear c31b0
                      try clear c33
                      try clear c33b0
                      try clear c34
                      try clear c34b0
                      try clear c35
                      try clear c35b0
                      try clear hx298_0
                      try clear hx299_0
                      try clear hx300_0
                      try clear hx301_0
                      try clear hx302_0
                      try clear p2
                      try clear p29
                      try clear p298
                      try clear p299
                      try clear p3
                      try clear p30
                      try clear p300
                      try clear p301
                      try clear p302
                      try clear p6
                      try clear q2
                      try clear q29
                      try clear q298
                      try clear q299
                      try clear q3
                      try clear q30
                      try clear q300
                      try clear q301
                      try clear q302
                      obtain ⟨kq, x123_31, rfl, HA, HJ31, HO_15, HB⟩ := hcut
                      cases kq with
                      | zero => exact absurd HA.out (by simp [dialtonelaw05_ClockExact.j3])
                      | succ kj31 =>
                        have H := HA.out
                        clear HA
                        simp only [dialtonelaw05_ClockExact.j3] at H
                        by_cases c36 : x123_31 = true
                        · subst c36
                          have H1 : (none) = some r := by rw [if_pos rfl] at H; exact H
                          clear H
                          have H := H1
                          clear H1
                          exact absurd H (by simp)
                        · replace c36 := Bool.eq_false_iff.mpr c36
                          subst c36
                          have H1 : (dialtonelaw05_ClockExact.l0 kj31 a1 t289 (wrap64 (t289 + t290)) t288 t291 t292 y295 (wrap64 (x16_2 + 1))) = some r := by rw [if_neg (show ¬ (false = true) by decide)] at H; exact H
                          clear H
                          have H := H1
                          clear H1
                          have H' := Aside0.mk H
                          clear H
                          go_wp2
                          go_roundg kj31
                          case measure => have := HJ11.out; have := HK2.out; have := HJ26.out; have := HJ31.out; omega
                          case rel => exact ⟨(wrap64 (x16_2 + 1)), (by first | rfl | (simp; done) | (simp [*]; done)), H', ⟨by have := HJ11.out; have := HK2.out; have := HJ26.out; have := HJ31.out; omega⟩, ⟨by (with_reducible repeat (first | apply Kd.R_alloc | apply Kd.R_drewN | apply Kd.R_drew)); exact HO_15.out⟩, ⟨by repeat (first | (with_reducible first | exact HB.out | apply below_alloc | apply pw_below_drewN | apply below_drew1) | exact HB.out)⟩⟩
              · rw [if_neg c26] at H
                have c26b0 : decide (x16_2 < (y295.length : Int)) = false := decide_eq_false c26
                clear c26
                replace H := Option.bind_eq_some_iff.mp H
                obtain ⟨⟨t303, t304⟩, A370, H⟩ := H
                replace H : ((clock_Spread.f k2 t288 (wrap64 (t289 + t290))).bind fun bt305 => ((dialtonelaw05_pick.f a1 (wrap64 (101 - t288))).bind fun t307 => ((clock_Spread.f k2 (wrap64 (t288 + t307)) t289).bind fun bt308 => (if t303 = t289 then (if t304 = t289 then (if bt305.1 ≥ t291 then (if bt305.2 ≥ t292 then (if bt308.1 ≤ t291 then (some (decide (bt308.2 ≥ t292))) else (none)) else (none)) else (none)) else (none)) else (none))))) = some r := H
                have A37 := Aside0.mk A370
                clear A370
                replace H := Option.bind_eq_some_iff.mp H
                obtain ⟨⟨t305, t306⟩, A380, H⟩ := H
                replace H : ((dialtonelaw05_pick.f a1 (wrap64 (101 - t288))).bind fun t307 => ((clock_Spread.f k2 (wrap64 (t288 + t307)) t289).bind fun bt308 => (if t303 = t289 then (if t304 = t289 then (if t305 ≥ t291 then (if t306 ≥ t292 then (if bt308.1 ≤ t291 then (some (decide (bt308.2 ≥ t292))) else (none)) else (none)) else (none)) else (none)) else (none)))) = some r := H
                have A38 := Aside0.mk A380
                clear A380
                replace H := Option.bind_eq_some_iff.mp H
                obtain ⟨t307, A390, H⟩ := H
                replace H : ((clock_Spread.f k2 (wrap64 (t288 + t307)) t289).bind fun bt308 => (if t303 = t289 then (if t304 = t289 then (if t305 ≥ t291 then (if t306 ≥ t292 then (if bt308.1 ≤ t291 then (some (decide (bt308.2 ≥ t292))) else (none)) else (none)) else (none)) else (none)) else (none))) = some r := H
                have A39 := Aside0.mk A390
                clear A390
                replace H := Option.bind_eq_some_iff.mp H
                obtain ⟨⟨t308, t309⟩, A400, H⟩ := H
                replace H : (if t303 = t289 then (if t304 = t289 then (if t305 ≥ t291 then (if t306 ≥ t292 then (if t308 ≤ t291 then (some (decide (t309 ≥ t292))) else (none)) else (none)) else (none)) else (none)) else (none)) = some r := H
                have A40 := Aside0.mk A400
                clear A400
                by_cases c41 : t303 = t289
                · rw [if_pos c41] at H
                  have c41b0 : (t303 == t289) = true := beq_iff_eq.mpr c41
                  have c41b1 : (t303 != t289) = false := bne_eq_false_iff_eq.mpr c41
                  clear c41
                  by_cases c42 : t304 = t289
                  · rw [if_pos c42] at H
                    have c42b0 : (t304 == t289) = true := beq_iff_eq.mpr c42
                    have c42b1 : (t304 != t289) = false := bne_eq_false_iff_eq.mpr c42
                    clear c42
                    by_cases c43 : t305 ≥ t291
                    · rw [if_pos c43] at H
                      have c43b0 : decide (t291 ≤ t305) = true := decide_eq_true c43
                      clear c43
                      by_cases c44 : t306 ≥ t292
                      · rw [if_pos c44] at H
                        have c44b0 : decide (t292 ≤ t306) = true := decide_eq_true c44
                        clear c44
                        by_cases c45 : t308 ≤ t291
                        · rw [if_pos c45] at H
                          have c45b0 : decide (t308 ≤ t291) = true := decide_eq_true c45
                          clear c45
                          obtain rfl := Option.some.inj H
                          obtain ⟨Ao46, co46, eo46⟩ := Kd.R_slice HO_15.out
                          subst eo46
                          go_wp2_with (first | ((with_reducible refine gate_callee (f := 11) rfl ?_); refine goesL_ (some 126) rfl rfl Try.func11 (by kernel_rfl) rfl #[.int .i64 0, .int .i64 t289] rfl (by (try simp only [List.map_toArray, List.map_cons, List.map_nil]); first | done | rfl | (simp only [List.length_drop, List.length_take]; rfl)) ?_; (with_reducible refine (clock_Spread.calls k2 0 t289 t303 t304 _ A37.out).mono ?_); rintro e w' ⟨rfl, ⟨nd, rfl⟩⟩; refine ⟨_, rfl, ?_⟩) | ((with_reducible refine gate_callee (f := 11) rfl ?_); refine goesL_ (some 132) rfl rfl Try.func11 (by kernel_rfl) rfl #[.int .i64 t288, .int .i64 (wrap64 (t289 + t290))] rfl (by (try simp only [List.map_toArray, List.map_cons, List.map_nil]); first | done | rfl | (simp only [List.length_drop, List.length_take]; rfl)) ?_; (with_reducible refine (clock_Spread.calls k2 t288 (wrap64 (t289 + t290)) t305 t306 _ A38.out).mono ?_); rintro e w' ⟨rfl, ⟨nd, rfl⟩⟩; refine ⟨_, rfl, ?_⟩) | ((with_reducible refine gate_callee (f := 19) rfl ?_); refine goesL_ (some 140) rfl rfl Try.func19 (by kernel_rfl) rfl #[.int .i64 a1, .int .i64 (wrap64 (101 - t288))] rfl (by (try simp only [List.map_toArray, List.map_cons, List.map_nil]); first | done | rfl | (simp only [List.length_drop, List.length_take]; rfl)) ?_; (with_reducible refine (dialtonelaw05_pick.calls a1 (wrap64 (101 - t288)) t307 _ A39.out).mono ?_); rintro e w47 ⟨rfl, hb⟩; refine ⟨_, rfl, ?_⟩; have n0_ := Aside0.mk (Kd.R_below (by (with_reducible repeat (first | apply Kd.R_alloc | apply Kd.R_drewN | apply Kd.R_drew)); exact HO_15.out) hb); have n1_ := Aside0.mk (below_step (by repeat (first | (with_reducible first | exact HB.out | apply below_alloc | apply pw_below_drewN | apply below_drew1) | exact HB.out)) hb); clear HO_15; clear HB; have HO_15 := n0_; have HB := n1_; clear n0_ n1_; (try clear hb); (try clear hb2); (try clear hk); (try clear hi)) | ((with_reducible refine gate_callee (f := 11) rfl ?_); refine goesL_ (some 143) rfl rfl Try.func11 (by kernel_rfl) rfl #[.int .i64 (wrap64 (t288 + t307)), .int .i64 t289] rfl (by (try simp only [List.map_toArray, List.map_cons, List.map_nil]); first | done | rfl | (simp only [List.length_drop, List.length_take]; rfl)) ?_; (with_reducible refine (clock_Spread.calls k2 (wrap64 (t288 + t307)) t289 t308 t309 _ A40.out).mono ?_); rintro e w' ⟨rfl, ⟨nd, rfl⟩⟩; refine ⟨_, rfl, ?_⟩))
                          go_ret
                          exact ⟨by first | rfl | (simp [errW_none, errW_some] <;> rfl) | (simp [*, errW_none, errW_some] <;> rfl), by repeat (first | (with_reducible first | exact HB.out | apply below_alloc | apply pw_below_drewN | apply below_drew1) | exact HB.out)⟩
                        · rw [if_neg c45] at H
                          exact absurd H (by simp)
                      · rw [if_neg c44] at H
                        exact absurd H (by simp)
                    · rw [if_neg c43] at H
                      exact absurd H (by simp)
                  · rw [if_neg c42] at H
                    exact absurd H (by simp)
                · rw [if_neg c41] at H
                  exact absurd H (by simp)
  · replace c7 := Bool.eq_false_iff.mpr c7
    subst c7
    have H1 : (none) = some r := by rw [if_neg (show ¬ (false = true) by decide)] at H; exact H
    clear H
    have H := H1
    clear H1
    exact absurd H (by simp)

end Go.Proofs.Ythbonailomfjlaa.C
