-- Written for this claim by a program of this session (wip/tools/hprint.py) out of the translation. Lean checks it.
import Derived.Test.YthbonailomfjlaaCKinds
import Derived.Test.YthbonailomfjlaaCAt
import Derived.Test.YthbonailomfjlaaCSane
import Derived.Test.YthbonailomfjlaaCMade
import Derived.Test.YthbonailomfjlaaHPick
namespace Go.Proofs.Ythbonailomfjlaa.C
open Go.RowKit Go.Proofs.YthbonailomfjlaaW.PrintWords Go.Proofs.YthbonailomfjlaaW.PrintLast Go.Proofs.YthbonailomfjlaaW.PrintMore
attribute [local go_sem] max2_int min2_int max_two min_two max_three min_three max_four min_four   -- for this text's walks alone
set_option linter.unusedVariables false
set_option linter.unusedSimpArgs false

/-! ### dialtonelaw05_ClockMoves: function 9 -/
mutual
def dialtonelaw05_ClockMoves.l0 : Nat → Bool → Int → Int → Int → Int → List (S50) → Int → List (S50) → Option (Bool)
  | 0, _, _, _, _, _, _, _, _ => none
  | k + 1, x13, x15, x16, x18, x416000, x416001, x419000, x419001 => if x18 < (x416001.length : Int) then (if 0 ≤ x18 then (if x419001.length < 5864062014805 then (dialtonelaw05_ClockMoves.l0 k x13 x15 x16 (wrap64 (x18 + 1)) x416000 x416001 x419000 (x419001 ++ [(⟨(rd_T50 x416001 x18).f0, wrap64 (((rd_T50 x416001 x18).f1) + x15), wrap64 (((rd_T50 x416001 x18).f2) + x15)⟩ : S50)])) else (none)) else (none)) else ((clock_At.f k x416000 x416001 x16).bind fun bt424 => ((clock_At.f k x419000 x419001 x16).bind fun bt427 => (if (x416001.length : Int) = 0 then (dialtonelaw05_ClockMoves.j1 k x13 x15 bt424.1 bt424.2.1 bt427.1 bt427.2.1 true) else (if bt424.2.2 = 0 then (if bt427.2.2 = 0 then (if bt424.1 = 0 then (dialtonelaw05_ClockMoves.j1 k x13 x15 bt424.1 bt424.2.1 bt427.1 bt427.2.1 true) else (dialtonelaw05_ClockMoves.j1 k x13 x15 bt424.1 bt424.2.1 bt427.1 bt427.2.1 (bt427.1 == 0))) else (dialtonelaw05_ClockMoves.j1 k x13 x15 bt424.1 bt424.2.1 bt427.1 bt427.2.1 true)) else (dialtonelaw05_ClockMoves.j1 k x13 x15 bt424.1 bt424.2.1 bt427.1 bt427.2.1 true)))))
def dialtonelaw05_ClockMoves.j1 : Nat → Bool → Int → Int → Int → Int → Int → Bool → Option (Bool)
  | 0, _, _, _, _, _, _, _ => none
  | k + 1, x13, x15, x20, x21, x23, x24, x102 => if x102 = true then (some x13) else (if x23 = (wrap64 (x20 + x15)) then (some (x24 == (wrap64 (x21 + x15)))) else (none))
end
def dialtonelaw05_ClockMoves.f (k : Nat) (a0 : Int) (a1 : Int) (l2 : List Int) (l3 : List (S60)) (a4 : Int) (a5 : Int) : Option (Bool) := (dialtonelaw05_sane.f k).bind fun t410 => (if t410 = true then ((dialtoneref05_Made.f k a0 a1 l2 l3).bind fun bt411 => ((dialtonelaw05_pick.f a4 100000).bind fun t416 => ((dialtonelaw05_pick.f a5 5000).bind fun t417 => (dialtonelaw05_ClockMoves.l0 k t410 t416 t417 0 bt411.1 bt411.2 bt411.1 ([] : List (S50)))))) else (none))
theorem dialtonelaw05_ClockMoves.mono_l : ∀ k, (∀ y0 y1 y2 y3 y4 y5 y6 y7, LeO (dialtonelaw05_ClockMoves.l0 k y0 y1 y2 y3 y4 y5 y6 y7) (dialtonelaw05_ClockMoves.l0 (k + 1) y0 y1 y2 y3 y4 y5 y6 y7)) ∧ (∀ y0 y1 y2 y3 y4 y5 y6, LeO (dialtonelaw05_ClockMoves.j1 k y0 y1 y2 y3 y4 y5 y6) (dialtonelaw05_ClockMoves.j1 (k + 1) y0 y1 y2 y3 y4 y5 y6))
  | 0 => ⟨fun _ _ _ _ _ _ _ _ r h => by simp [dialtonelaw05_ClockMoves.l0] at h, fun _ _ _ _ _ _ _ r h => by simp [dialtonelaw05_ClockMoves.j1] at h⟩
  | k + 1 => by
    obtain ⟨ih0, ih1⟩ := dialtonelaw05_ClockMoves.mono_l k
    refine ⟨?_, ?_⟩
    · intro y0 y1 y2 y3 y4 y5 y6 y7
      unfold dialtonelaw05_ClockMoves.l0
      repeat' first
      | (with_reducible exact ih0 _ _ _ _ _ _ _ _)
      | (with_reducible exact ih1 _ _ _ _ _ _ _)
      | (with_reducible exact clock_At.mono _ _ _ _)
      | (with_reducible exact dialtonelaw05_sane.mono _)
      | (with_reducible exact dialtoneref05_Made.mono _ _ _ _ _)
      | (with_reducible exact LeO.refl _)
      | (with_reducible exact LeO.none _)
      | (with_reducible refine LeO.ite ?_ ?_)
      | (with_reducible refine LeO.bind ?_ (fun _ => ?_))
      | exact ih0 _ _ _ _ _ _ _ _
      | exact ih1 _ _ _ _ _ _ _
      | exact clock_At.mono _ _ _ _
      | exact dialtonelaw05_sane.mono _
      | exact dialtoneref05_Made.mono _ _ _ _ _
      | exact LeO.none _
      | refine LeO.ite ?_ ?_
      | refine LeO.bind ?_ (fun _ => ?_)
    · intro y0 y1 y2 y3 y4 y5 y6
      unfold dialtonelaw05_ClockMoves.j1
      repeat' first
      | (with_reducible exact ih0 _ _ _ _ _ _ _ _)
      | (with_reducible exact ih1 _ _ _ _ _ _ _)
      | (with_reducible exact clock_At.mono _ _ _ _)
      | (with_reducible exact dialtonelaw05_sane.mono _)
      | (with_reducible exact dialtoneref05_Made.mono _ _ _ _ _)
      | (with_reducible exact LeO.refl _)
      | (with_reducible exact LeO.none _)
      | (with_reducible refine LeO.ite ?_ ?_)
      | (with_reducible refine LeO.bind ?_ (fun _ => ?_))
      | exact ih0 _ _ _ _ _ _ _ _
      | exact ih1 _ _ _ _ _ _ _
      | exact clock_At.mono _ _ _ _
      | exact dialtonelaw05_sane.mono _
      | exact dialtoneref05_Made.mono _ _ _ _ _
      | exact LeO.none _
      | refine LeO.ite ?_ ?_
      | refine LeO.bind ?_ (fun _ => ?_)
theorem dialtonelaw05_ClockMoves.mono : ∀ a0 a1 a2 a3 a4 a5 k, LeO (dialtonelaw05_ClockMoves.f k a0 a1 a2 a3 a4 a5) (dialtonelaw05_ClockMoves.f (k + 1) a0 a1 a2 a3 a4 a5) := by
  intro a0 a1 a2 a3 a4 a5 k
  obtain ⟨ih0, ih1⟩ := dialtonelaw05_ClockMoves.mono_l k
  unfold dialtonelaw05_ClockMoves.f
  repeat' first
      | (with_reducible exact ih0 _ _ _ _ _ _ _ _)
      | (with_reducible exact ih1 _ _ _ _ _ _ _)
      | (with_reducible exact clock_At.mono _ _ _ _)
      | (with_reducible exact dialtonelaw05_sane.mono _)
      | (with_reducible exact dialtoneref05_Made.mono _ _ _ _ _)
      | (with_reducible exact LeO.refl _)
      | (with_reducible exact LeO.none _)
      | (with_reducible refine LeO.ite ?_ ?_)
      | (with_reducible refine LeO.bind ?_ (fun _ => ?_))
      | exact ih0 _ _ _ _ _ _ _ _
      | exact ih1 _ _ _ _ _ _ _
      | exact clock_At.mono _ _ _ _
      | exact dialtonelaw05_sane.mono _
      | exact dialtoneref05_Made.mono _ _ _ _ _
      | exact LeO.none _
      | refine LeO.ite ?_ ?_
      | refine LeO.bind ?_ (fun _ => ?_)
set_option maxHeartbeats 8000000 in
set_option maxRecDepth 100000 in
theorem dialtonelaw05_ClockMoves.calls (k : Nat) (a0 : Int) (a1 : Int) (A2 : Option Addr) (c2 : Nat) (l2 : List Int) (A3 : Option Addr) (c3 : Nat) (l3 : List (S60)) (a4 : Int) (a5 : Int) (r : Bool) (w : World) (hr2 : Kd.C (Kd.int .i64) w A2 l2.length l2) (hc2 : l2.length ≤ c2) (hr3 : Kd.C k60 w A3 l3.length l3) (hc3 : l3.length ≤ c3) (h : dialtonelaw05_ClockMoves.f k a0 a1 l2 l3 a4 a5 = some r) :
    Calls Try.prog 9 #[.int .i64 a0, .int .i64 a1, .slice A2 l2.length c2, .slice A3 l3.length c3, .int .i64 a4, .int .i64 a5] w fun e w' => e = .returned (.bool r) ∧ Below w.heap.size w w' := by
  have hu24 := Try.underlying24
  have hu50 := Try.underlying50
  have HR2 := Aside0.mk hr2
  have HC2 := Aside0.mk hc2
  clear hr2 hc2
  have HR3 := Aside0.mk hr3
  have HC3 := Aside0.mk hc3
  clear hr3 hc3
  have HB := Aside0.mk (Below.refl w.heap.size w)
  have H : ((dialtonelaw05_sane.f k).bind fun t410 => (if t410 = true then ((dialtoneref05_Made.f k a0 a1 l2 l3).bind fun bt411 => ((dialtonelaw05_pick.f a4 100000).bind fun t416 => ((dialtonelaw05_pick.f a5 5000).bind fun t417 => (dialtonelaw05_ClockMoves.l0 k t410 t416 t417 0 bt411.1 bt411.2 bt411.1 ([] : List (S50)))))) else (none))) = some r := h
  clear h
  replace H := Option.bind_eq_some_iff.mp H
  obtain ⟨t410, A70, H⟩ := H
  replace H : (if t410 = true then ((dialtoneref05_Made.f k a0 a1 l2 l3).bind fun bt411 => ((dialtonelaw05_pick.f a4 100000).bind fun t416 => ((dialtonelaw05_pick.f a5 5000).bind fun t417 => (dialtonelaw05_ClockMoves.l0 k t410 t416 t417 0 bt411.1 bt411.2 bt411.1 ([] : List (S50)))))) else (none)) = some r := H
  have A7 := Aside0.mk A70
  clear A70
  by_cases c8 : t410 = true
  · subst c8
    have H1 : ((dialtoneref05_Made.f k a0 a1 l2 l3).bind fun bt411 => ((dialtonelaw05_pick.f a4 100000).bind fun t416 => ((dialtonelaw05_pick.f a5 5000).bind fun t417 => (dialtonelaw05_ClockMoves.l0 k true t416 t417 0 bt411.1 bt411.2 bt411.1 ([] : List (S50)))))) = some r := by rw [if_pos rfl] at H; exact H
    clear H
    have H := H1
    clear H1
    replace H := Option.bind_eq_some_iff.mp H
    obtain ⟨⟨t411, t412⟩, A90, H⟩ := H
    replace H : ((dialtonelaw05_pick.f a4 100000).bind fun t416 => ((dialtonelaw05_pick.f a5 5000).bind fun t417 => (dialtonelaw05_ClockMoves.l0 k true t416 t417 0 t411 t412 t411 ([] : List (S50))))) = some r := H
    have A9 := Aside0.mk A90
    clear A90
    replace H := Option.bind_eq_some_iff.mp H
    obtain ⟨t416, A100, H⟩ := H
    replace H : ((dialtonelaw05_pick.f a5 5000).bind fun t417 => (dialtonelaw05_ClockMoves.l0 k true t416 t417 0 t411 t412 t411 ([] : List (S50)))) = some r := H
    have A10 := Aside0.mk A100
    clear A100
    replace H := Option.bind_eq_some_iff.mp H
    obtain ⟨t417, A110, H⟩ := H
    replace H : (dialtonelaw05_ClockMoves.l0 k true t416 t417 0 t411 t412 t411 ([] : List (S50))) = some r := H
    have A11 := Aside0.mk A110
    clear A110
    have H' := Aside0.mk H
    clear H
    go_enter Try.func9, Try.ntmps9
    go_wp2_with (first | ((with_reducible refine gate_callee (f := 10) rfl ?_); refine goesL_ (some 26) rfl rfl Try.func10 (by kernel_rfl) rfl #[] rfl (by (try simp only [List.map_toArray, List.map_cons, List.map_nil]); first | done | rfl | (simp only [List.length_drop, List.length_take]; rfl)) ?_; (with_reducible refine (dialtonelaw05_sane.calls k  true _ A7.out).mono ?_); rintro e w12 ⟨rfl, hb⟩; refine ⟨_, rfl, ?_⟩; have n0_ := Aside0.mk (below_step (by repeat (first | (with_reducible first | exact HB.out | apply below_alloc | apply pw_below_drewN | apply below_drew1) | exact HB.out)) hb); clear HB; have HB := n0_; clear n0_; (try clear hb); (try clear hb2); (try clear hk); (try clear hi)) | ((with_reducible refine gate_callee (f := 16) rfl ?_); refine goesL_ (some 33) rfl rfl Try.func16 (by kernel_rfl) rfl #[.int .i64 a0, .int .i64 a1, .slice A2 l2.length c2, .slice A3 l3.length c3] rfl (by (try simp only [List.map_toArray, List.map_cons, List.map_nil]); first | done | rfl | (simp only [List.length_drop, List.length_take]; rfl)) ?_; (with_reducible refine (dialtoneref05_Made.calls k a0 a1 _ _ l2 _ _ l3 t411 t412 _ ?side1 ?side2 ?side3 ?side4 A9.out).mono ?_); (case side1 => repeat (first | exact (Kd.C_below HR2.out HB.out) | (with_reducible refine Kd.C_alloc ?_ _) | (with_reducible refine Kd.C_drewN ?_ _) | (with_reducible refine Kd.C_drew ?_))); (case side2 => exact HC2.out); (case side3 => repeat (first | exact (Kd.C_below HR3.out HB.out) | (with_reducible refine Kd.C_alloc ?_ _) | (with_reducible refine Kd.C_drewN ?_ _) | (with_reducible refine Kd.C_drew ?_))); (case side4 => exact HC3.out); rintro e w13 ⟨v413, rfl, ho0, hb⟩; refine ⟨_, rfl, ?_⟩; have n0_ := Aside0.mk (Kd.R_lower ho0 (below_size (by repeat (first | (with_reducible first | exact HB.out | apply below_alloc | apply pw_below_drewN | apply below_drew1) | exact HB.out)))); have n1_ := Aside0.mk (below_step (by repeat (first | (with_reducible first | exact HB.out | apply below_alloc | apply pw_below_drewN | apply below_drew1) | exact HB.out)) hb); clear HB; have HO414 := n0_; have HB := n1_; clear n0_ n1_; (try clear hb); (try clear hb2); (try clear hk); (try clear hi); (try clear ho0)) | ((with_reducible refine gate_dst (N := 14) rfl ?_); refine box_event ?hg (N := 14) ?hd (cs := #[.int .i64 0, .slice none 0 0]) (t := 24) ?hr ?_; (case hd => rfl); (case hg => rfl); (case hr => first | (go_simp; done) | (go_simp; rfl)); intro gb415 hg w14 hbox hb; have n0_ := Aside0.mk (Kd.R_below (by (with_reducible repeat (first | apply Kd.R_alloc | apply Kd.R_drewN | apply Kd.R_drew)); exact HO414.out) hb); have n1_ := Aside0.mk (below_step (by repeat (first | (with_reducible first | exact HB.out | apply below_alloc | apply pw_below_drewN | apply below_drew1) | exact HB.out)) hb); have n2_ := Aside0.mk (hbox); have n3_ := Aside0.mk ((by rw [hg]; exact (below_size (by repeat (first | (with_reducible first | exact HB.out | apply below_alloc | apply pw_below_drewN | apply below_drew1) | exact HB.out))) : w.heap.size ≤ gb415)); have n4_ := Aside0.mk ((by rw [hg]; exact (below_size (by repeat (first | (with_reducible first | exact HB.out | apply below_alloc | apply pw_below_drewN | apply below_drew1) | exact HB.out))) : w.heap.size ≤ gb415)); clear HO414; clear HB; have HO414 := n0_; have HB := n1_; have BK415 := n2_; have GW415 := n3_; have GE415 := n4_; clear n0_ n1_ n2_ n3_ n4_; clear hb hbox hg; have hcz15_0 : w14.cell? ⟨gb415, 0, none⟩ = some (.int .i64 0) := (blk_cell BK415.out 0).trans rfl; have hcz15_1 : w14.cell? ⟨gb415, 1, none⟩ = some (.slice none 0 0) := (blk_cell BK415.out 1).trans rfl; have hfz15_0 := blk_frozen BK415.out 0; have hfz15_1 := blk_frozen BK415.out 1; obtain ⟨Ao16, co16, eo16⟩ := Kd.R_slice HO414.out; subst eo16) | ((with_reducible refine gate_callee (f := 19) rfl ?_); refine goesL_ (some 35) rfl rfl Try.func19 (by kernel_rfl) rfl #[.int .i64 a4, .int .i64 100000] rfl (by (try simp only [List.map_toArray, List.map_cons, List.map_nil]); first | done | rfl | (simp only [List.length_drop, List.length_take]; rfl)) ?_; (with_reducible refine (dialtonelaw05_pick.calls a4 100000 t416 _ A10.out).mono ?_); rintro e w17 ⟨rfl, hb⟩; refine ⟨_, rfl, ?_⟩; have n0_ := Aside0.mk (Kd.R_below (by (with_reducible repeat (first | apply Kd.R_alloc | apply Kd.R_drewN | apply Kd.R_drew)); exact (Kd.R_mono (Kd.R_far (p := ⟨gb415, 1, none⟩) (Kd.R_far (p := ⟨gb415, 0, none⟩) (Kd.R_types HO414.out BK415.out (by decide)) (fun _ hk => hk.2) (.int .i64 t411)) (fun _ hk => hk.2) (.slice Ao16 t412.length co16)) (fun _ h_ => h_.1))) hb); have n1_ := Aside0.mk (blk_below (g := gb415) (o := .cells #[.int .i64 t411, .slice Ao16 t412.length co16] 24 (0, 0)) (by (with_reducible repeat (first | refine blk_drewN ?_ _ | refine blk_drew ?_ | refine blk_alloc ?_ _)); refine blk_put (cs := #[.int .i64 t411, .slice none 0 0]) ?_ 1 _ rfl; (with_reducible repeat (first | refine blk_drewN ?_ _ | refine blk_drew ?_ | refine blk_alloc ?_ _)); refine blk_put (cs := #[.int .i64 0, .slice none 0 0]) ?_ 0 _ rfl; (with_reducible repeat (first | refine blk_drewN ?_ _ | refine blk_drew ?_ | refine blk_alloc ?_ _)); exact BK415.out) hb); have n2_ := Aside0.mk (below_step (by repeat (first | (with_reducible first | exact HB.out | apply below_alloc | apply pw_below_drewN | apply below_drew1 | refine below_set ?_ GE415.out) | exact HB.out)) hb); clear HO414; clear BK415; clear HB; have HO414 := n0_; have BK415 := n1_; have HB := n2_; clear n0_ n1_ n2_; (try clear hb); (try clear hb2); (try clear hk); (try clear hi)) | ((with_reducible refine gate_callee (f := 19) rfl ?_); refine goesL_ (some 37) rfl rfl Try.func19 (by kernel_rfl) rfl #[.int .i64 a5, .int .i64 5000] rfl (by (try simp only [List.map_toArray, List.map_cons, List.map_nil]); first | done | rfl | (simp only [List.length_drop, List.length_take]; rfl)) ?_; (with_reducible refine (dialtonelaw05_pick.calls a5 5000 t417 _ A11.out).mono ?_); rintro e w18 ⟨rfl, hb⟩; refine ⟨_, rfl, ?_⟩; have n0_ := Aside0.mk (Kd.R_below (by (with_reducible repeat (first | apply Kd.R_alloc | apply Kd.R_drewN | apply Kd.R_drew)); exact HO414.out) hb); have n1_ := Aside0.mk (blk_below (g := gb415) (o := .cells #[.int .i64 t411, .slice Ao16 t412.length co16] 24 (0, 0)) (by (with_reducible repeat (first | refine blk_drewN ?_ _ | refine blk_drew ?_ | refine blk_alloc ?_ _)); exact BK415.out) hb); have n2_ := Aside0.mk (below_step (by repeat (first | (with_reducible first | exact HB.out | apply below_alloc | apply pw_below_drewN | apply below_drew1 | refine below_set ?_ GE415.out) | exact HB.out)) hb); clear HO414; clear BK415; clear HB; have HO414 := n0_; have BK415 := n1_; have HB := n2_; clear n0_ n1_ n2_; (try clear hb); (try clear hb2); (try clear hk); (try clear hi); have hcz19_0 : w18.cell? ⟨gb415, 0, none⟩ = some (.int .i64 t411) := (blk_cell BK415.out 0).trans rfl; have hcz19_1 : w18.cell? ⟨gb415, 1, none⟩ = some (.slice Ao16 t412.length co16) := (blk_cell BK415.out 1).trans rfl; have hfz19_0 := blk_frozen BK415.out 0; have hfz19_1 := blk_frozen BK415.out 1) | ((with_reducible refine gate_dst (N := 17) rfl ?_); refine box_event ?hg (N := 17) ?hd (cs := #[.int .i64 0, .slice none 0 0]) (t := 24) ?hr ?_; (case hd => rfl); (case hg => rfl); (case hr => first | (go_simp; done) | (go_simp; rfl)); intro gb418 hg w20 hbox hb; have n0_ := Aside0.mk (Kd.R_below (by (with_reducible repeat (first | apply Kd.R_alloc | apply Kd.R_drewN | apply Kd.R_drew)); exact HO414.out) hb); have n1_ := Aside0.mk (blk_below (g := gb415) (o := .cells #[.int .i64 t411, .slice Ao16 t412.length co16] 24 (0, 0)) (by (with_reducible repeat (first | refine blk_drewN ?_ _ | refine blk_drew ?_ | refine blk_alloc ?_ _)); exact BK415.out) hb); have n2_ := Aside0.mk (below_step (by repeat (first | (with_reducible first | exact HB.out | apply below_alloc | apply pw_below_drewN | apply below_drew1 | refine below_set ?_ GE415.out) | exact HB.out)) hb); have n3_ := Aside0.mk (hbox); have n4_ := Aside0.mk ((by rw [hg]; exact (below_size (by repeat (first | (with_reducible first | exact HB.out | apply below_alloc | apply pw_below_drewN | apply below_drew1 | refine below_set ?_ GE415.out) | exact HB.out))) : w.heap.size ≤ gb418)); have n5_ := Aside0.mk ((by rw [hg]; exact (below_size (by repeat (first | (with_reducible first | exact HB.out | apply below_alloc | apply pw_below_drewN | apply below_drew1 | refine below_set ?_ GE415.out) | exact HB.out))) : w.heap.size ≤ gb418)); have n6_ := Aside0.mk ((by rw [hg]; exact Nat.ne_of_lt (blk_lt (g := gb415) (o := .cells #[.int .i64 t411, .slice Ao16 t412.length co16] 24 (0, 0)) (by (with_reducible repeat (first | refine blk_drewN ?_ _ | refine blk_drew ?_ | refine blk_alloc ?_ _)); exact BK415.out)) : gb415 ≠ gb418)); have n7_ := Aside0.mk ((by rw [hg]; exact Nat.ne_of_gt (blk_lt (g := gb415) (o := .cells #[.int .i64 t411, .slice Ao16 t412.length co16] 24 (0, 0)) (by (with_reducible repeat (first | refine blk_drewN ?_ _ | refine blk_drew ?_ | refine blk_alloc ?_ _)); exact BK415.out)) : gb418 ≠ gb415)); clear HO414; clear BK415; clear HB; have HO414 := n0_; have BK415 := n1_; have HB := n2_; have BK418 := n3_; have GW418 := n4_; have GE418 := n5_; have NB415_418 := n6_; have NB418_415 := n7_; clear n0_ n1_ n2_ n3_ n4_ n5_ n6_ n7_; clear hb hbox hg; have hnb21 := NB418_415.out; have hnc21 := NB415_418.out; have hcz22_0 : w20.cell? ⟨gb418, 0, none⟩ = some (.int .i64 0) := (blk_cell BK418.out 0).trans rfl; have hcz22_1 : w20.cell? ⟨gb418, 1, none⟩ = some (.slice none 0 0) := (blk_cell BK418.out 1).trans rfl; have hfz22_0 := blk_frozen BK418.out 0; have hfz22_1 := blk_frozen BK418.out 1))
    go_loopg [18] k (fun kq v18 w' => ∃ (x18_1 : Int) (x419001_1 : List (S50)) (u419001 : Value), v18 = .int .i64 x18_1 ∧ Aside0 (dialtonelaw05_ClockMoves.l0 kq true t416 t417 x18_1 t411 t412 t411 x419001_1 = some r) ∧ Aside0 (kq ≤ k) ∧ Aside0 (Kd.R k50 50 w' w.heap.size (fun k_ => some k_ ≠ (u419001 : Value).ownBlock) (.slice Ao16 t412.length co16) t412) ∧ Aside0 (Kd.R k50 50 w' w.heap.size (fun k_ => some k_ ≠ ((.slice Ao16 t412.length co16) : Value).ownBlock) u419001 x419001_1) ∧ Aside0 (w'.heap[gb415]? = some (.cells #[.int .i64 t411, (.slice Ao16 t412.length co16)] 24 (0, 0))) ∧ Aside0 (w'.heap[gb418]? = some (.cells #[.int .i64 t411, u419001] 24 (0, 0))) ∧ Aside0 (Below w.heap.size w w'))
    case atStart => exact ⟨(0), (([] : List (S50))), (.slice none 0 0), (by first | rfl | (simp; done) | (simp [*]; done)), H', ⟨Nat.le_refl _⟩, ⟨by (with_reducible repeat (first | apply Kd.R_alloc | apply Kd.R_drewN | apply Kd.R_drew)); exact Kd.R_mono (Kd.R_far (p := ⟨gb418, 1, none⟩) (Kd.R_far (p := ⟨gb418, 0, none⟩) (Kd.R_types HO414.out BK418.out (by decide)) (fun _ hk => hk.2) (.int .i64 t411)) (fun _ hk => hk.2) (.slice none 0 0)) (fun _ hk => (by simp [Value.ownBlock]))⟩, ⟨by first | exact Kd.R_nil _ _ _ _ _ | exact Kd.N_nil _ _ _ _ _ | exact Kd.V_nil _ _ _ _ _ | exact Kd.Q_nil _ _ _ _ _ | exact Kd.S_nil _ _ _ _ _⟩, ⟨by (with_reducible repeat (first | refine blk_drewN ?_ _ | refine blk_drew ?_ | refine blk_alloc ?_ _)); refine blk_far ?_ NB415_418.out _; (with_reducible repeat (first | refine blk_drewN ?_ _ | refine blk_drew ?_ | refine blk_alloc ?_ _)); refine blk_far ?_ NB415_418.out _; (with_reducible repeat (first | refine blk_drewN ?_ _ | refine blk_drew ?_ | refine blk_alloc ?_ _)); exact BK415.out⟩, ⟨by (with_reducible repeat (first | refine blk_drewN ?_ _ | refine blk_drew ?_ | refine blk_alloc ?_ _)); refine blk_put (cs := #[.int .i64 t411, .slice none 0 0]) ?_ 1 _ rfl; (with_reducible repeat (first | refine blk_drewN ?_ _ | refine blk_drew ?_ | refine blk_alloc ?_ _)); refine blk_put (cs := #[.int .i64 0, .slice none 0 0]) ?_ 0 _ rfl; (with_reducible repeat (first | refine blk_drewN ?_ _ | refine blk_drew ?_ | refine blk_alloc ?_ _)); exact BK418.out⟩, ⟨by repeat (first | (with_reducible first | exact HB.out | apply below_alloc | apply pw_below_drewN | apply below_drew1 | refine below_set ?_ GE415.out | refine below_set ?_ GE418.out) | exact HB.out)⟩⟩
    case round =>
      clear H'
      try clear c1
      try clear c2
      try clear p2
      try clear c3
      try clear c8
      try clear c9
      try clear c10
      try clear c16
      try clear c19
      try clear c21
      try clear hcz15_0
      try clear hcz15_1
      try clear hcz19_0
      try clear hcz19_1
      try clear hcz22_0
      try clear hcz22_1
      try clear hfz15_0
      try clear hfz15_1
      try clear hfz19_0
      try clear hfz19_1
      try clear hfz22_0
      try clear hfz22_1
      obtain ⟨x18_1, x419001_1, u419001, rfl, HA, HK1, HO_416001, HO_419001, BK415, BK418, HB⟩ := hrel
      cases gk with
      | zero => exact absurd HA.out (by simp [dialtonelaw05_ClockMoves.l0])
      | succ k1 =>
        have H := HA.out
        clear HA
        simp only [dialtonelaw05_ClockMoves.l0] at H
        by_cases c23 : x18_1 < (t412.length : Int)
        · rw [if_pos c23] at H
          have c23b0 : decide (x18_1 < (t412.length : Int)) = true := decide_eq_true c23
          clear c23
          by_cases c24 : 0 ≤ x18_1
          · rw [if_pos c24] at H
            have c24b0 : decide (0 ≤ x18_1) = true := decide_eq_true c24
            clear c24
            by_cases c25 : x419001_1.length < 5864062014805
            · rw [if_pos c25] at H
              have LMc25 := Aside0.mk c25
              clear c25
              obtain ⟨y421, hy421⟩ : ∃ y_ : List (S50), y_ = (x419001_1 ++ [(⟨(rd_T50 t412 x18_1).f0, wrap64 (((rd_T50 t412 x18_1).f1) + t416), wrap64 (((rd_T50 t412 x18_1).f2) + t416)⟩ : S50)]) := ⟨_, rfl⟩
              replace H : (dialtonelaw05_ClockMoves.l0 k1 true t416 t417 (wrap64 (x18_1 + 1)) t411 t412 t411 y421) = some r := by first | (rw [hy421]; with_reducible exact H) | (have H2_ := (Option.bind_some _ _).symm.trans H; rw [hy421]; with_reducible exact H2_) | (have H2_ := (Option.bind_some _ _).symm.trans H; with_reducible exact H2_) | with_reducible exact H | (rw [hy421]; exact H) | exact H
              have Ny421 := Aside0.mk hy421
              clear hy421
              have H' := Aside0.mk H
              clear H
              have hnb26 := NB415_418.out
              have hnc26 := NB418_415.out
              have hcz27_0 : wr.cell? ⟨gb415, 0, none⟩ = some (.int .i64 t411) := (blk_cell BK415.out 0).trans rfl
              have hcz27_1 : wr.cell? ⟨gb415, 1, none⟩ = some (.slice Ao16 t412.length co16) := (blk_cell BK415.out 1).trans rfl
              have hfz27_0 := blk_frozen BK415.out 0
              have hfz27_1 := blk_frozen BK415.out 1
              have p419 : 0 ≤ (x18_1 : Int) := of_decide_eq_true (by first | (with_reducible assumption) | assumption)
              have q419 : x18_1 < (t412.length : Int) := of_decide_eq_true (by first | (with_reducible assumption) | assumption)
              obtain ⟨ad419, e419, hx419_0, hx419_1, hx419_2⟩ := at_T50 (Kd.R_reads' HO_416001.out).2.2 x18_1 p419 q419
              cases e419
              replace p419 := eq_true p419
              replace q419 := eq_true q419
              go_wp2_with (first | ((with_reducible refine gate_dst (N := 19) rfl ?_); refine box_event ?hg (N := 19) ?hd (cs := #[.int .i64 0, .int .i64 0, .int .i64 0]) (t := 50) ?hr ?_; (case hd => rfl); (case hg => rfl); (case hr => first | (go_simp; done) | (go_simp; rfl)); intro gb420 hg w28 hbox hb; have n0_ := Aside0.mk (Kd.R_below (Kd.R_elderB (by (with_reducible repeat (first | apply Kd.R_alloc | apply Kd.R_drewN | apply Kd.R_drew)); exact HO_416001.out) gb420 (Nat.le_of_eq hg.symm)) hb); have n1_ := Aside0.mk (Kd.R_below (Kd.R_elderB (by (with_reducible repeat (first | apply Kd.R_alloc | apply Kd.R_drewN | apply Kd.R_drew)); exact HO_419001.out) gb420 (Nat.le_of_eq hg.symm)) hb); have n2_ := Aside0.mk (blk_below (g := gb415) (o := .cells #[.int .i64 t411, .slice (some ad419) t412.length co16] 24 (0, 0)) (by (with_reducible repeat (first | refine blk_drewN ?_ _ | refine blk_drew ?_ | refine blk_alloc ?_ _)); exact BK415.out) hb); have n3_ := Aside0.mk (blk_below (g := gb418) (o := .cells #[.int .i64 t411, u419001] 24 (0, 0)) (by (with_reducible repeat (first | refine blk_drewN ?_ _ | refine blk_drew ?_ | refine blk_alloc ?_ _)); exact BK418.out) hb); have n4_ := Aside0.mk (below_step (by repeat (first | (with_reducible first | exact HB.out | apply below_alloc | apply pw_below_drewN | apply below_drew1 | refine below_set ?_ GE415.out | refine below_set ?_ GE418.out) | exact HB.out)) hb); have n5_ := Aside0.mk (hbox); have n6_ := Aside0.mk ((by rw [hg]; exact (below_size (by repeat (first | (with_reducible first | exact HB.out | apply below_alloc | apply pw_below_drewN | apply below_drew1 | refine below_set ?_ GE415.out | refine below_set ?_ GE418.out) | exact HB.out))) : w.heap.size ≤ gb420)); have n7_ := Aside0.mk ((by rw [hg]; exact (below_size (by repeat (first | (with_reducible first | exact HB.out | apply below_alloc | apply pw_below_drewN | apply below_drew1 | refine below_set ?_ GE415.out | refine below_set ?_ GE418.out) | exact HB.out))) : w.heap.size ≤ gb420)); have n8_ := Aside0.mk ((by rw [hg]; exact Nat.ne_of_lt (blk_lt (g := gb415) (o := .cells #[.int .i64 t411, .slice (some ad419) t412.length co16] 24 (0, 0)) (by (with_reducible repeat (first | refine blk_drewN ?_ _ | refine blk_drew ?_ | refine blk_alloc ?_ _)); exact BK415.out)) : gb415 ≠ gb420)); have n9_ := Aside0.mk ((by rw [hg]; exact Nat.ne_of_gt (blk_lt (g := gb415) (o := .cells #[.int .i64 t411, .slice (some ad419) t412.length co16] 24 (0, 0)) (by (with_reducible repeat (first | refine blk_drewN ?_ _ | refine blk_drew ?_ | refine blk_alloc ?_ _)); exact BK415.out)) : gb420 ≠ gb415)); have n10_ := Aside0.mk ((by rw [hg]; exact Nat.ne_of_lt (blk_lt (g := gb418) (o := .cells #[.int .i64 t411, u419001] 24 (0, 0)) (by (with_reducible repeat (first | refine blk_drewN ?_ _ | refine blk_drew ?_ | refine blk_alloc ?_ _)); exact BK418.out)) : gb418 ≠ gb420)); have n11_ := Aside0.mk ((by rw [hg]; exact Nat.ne_of_gt (blk_lt (g := gb418) (o := .cells #[.int .i64 t411, u419001] 24 (0, 0)) (by (with_reducible repeat (first | refine blk_drewN ?_ _ | refine blk_drew ?_ | refine blk_alloc ?_ _)); exact BK418.out)) : gb420 ≠ gb418)); clear HO_416001; clear HO_419001; clear BK415; clear BK418; clear HB; have HO_416001 := n0_; have HO_419001 := n1_; have BK415 := n2_; have BK418 := n3_; have HB := n4_; have BK420 := n5_; have GW420 := n6_; have GE420 := n7_; have NB415_420 := n8_; have NB420_415 := n9_; have NB418_420 := n10_; have NB420_418 := n11_; clear n0_ n1_ n2_ n3_ n4_ n5_ n6_ n7_ n8_ n9_ n10_ n11_; clear hb hbox hg; have hnb29 := NB420_415.out; have hnc29 := NB415_420.out; have hnb30 := NB420_418.out; have hnc30 := NB418_420.out; have hcz31_0 : w28.cell? ⟨gb420, 0, none⟩ = some (.int .i64 0) := (blk_cell BK420.out 0).trans rfl; have hcz31_1 : w28.cell? ⟨gb420, 1, none⟩ = some (.int .i64 0) := (blk_cell BK420.out 1).trans rfl; have hcz31_2 : w28.cell? ⟨gb420, 2, none⟩ = some (.int .i64 0) := (blk_cell BK420.out 2).trans rfl; have hfz31_0 := blk_frozen BK420.out 0; have hfz31_1 := blk_frozen BK420.out 1; have hfz31_2 := blk_frozen BK420.out 2; have hcz32_0 : w28.cell? ⟨gb418, 0, none⟩ = some (.int .i64 t411) := (blk_cell BK418.out 0).trans rfl; have hcz32_1 : w28.cell? ⟨gb418, 1, none⟩ = some (u419001) := (blk_cell BK418.out 1).trans rfl; have hfz32_0 := blk_frozen BK418.out 0; have hfz32_1 := blk_frozen BK418.out 1) | ((with_reducible refine gate_builtin (b := .append) (xs := #[.tmp 54, .tmp 66]) rfl ?_); at_builtin; refine Kd.R_append k50 (w0 := w) w.heap.size rfl (.tmp 54) (.tmp 66) 22 50 (.agg #[(.int .i64 0), (.int .i64 0), (.int .i64 0)]) 24 rfl Try.underlying22 info50 rfl (by decide) (by omega) u419001 x419001_1 (⟨(rd_T50 t412 x18_1).f0, wrap64 (((rd_T50 t412 x18_1).f1) + t416), wrap64 (((rd_T50 t412 x18_1).f2) + t416)⟩ : S50) [.int .i64 ((rd_T50 t412 x18_1).f0), .int .i64 (wrap64 (((rd_T50 t412 x18_1).f1) + t416)), .int .i64 (wrap64 (((rd_T50 t412 x18_1).f2) + t416))] (fun k_ => some k_ ≠ (.slice (some ad419) t412.length co16 : Value).ownBlock ∧ k_ ≠ gb420) (fun _ => False) rfl (by first | (go_simp; done) | (go_simp; rfl)) ?aP (fun _ hk => hk.elim) ?aF ?aO ?aB ?aS ?aL ?_; (case aP => exact k50_mkM _ _ _ (⟨(rd_T50 t412 x18_1).f0, wrap64 (((rd_T50 t412 x18_1).f1) + t416), wrap64 (((rd_T50 t412 x18_1).f2) + t416)⟩ : S50)); (case aB => exact (by repeat (first | (with_reducible first | exact HB.out | apply below_alloc | apply pw_below_drewN | apply below_drew1 | refine below_set ?_ GE415.out | refine below_set ?_ GE418.out | refine below_set ?_ GE420.out) | exact HB.out))); (case aF => exact (fun k_ hk => ⟨Kd.fresh' (Kd.R_lt (by (with_reducible repeat (first | apply Kd.R_alloc | apply Kd.R_drewN | apply Kd.R_drew)); exact (Kd.R_mono (Kd.R_far (p := ⟨gb420, 2, none⟩) (Kd.R_far (p := ⟨gb420, 1, none⟩) (Kd.R_far (p := ⟨gb420, 0, none⟩) (Kd.R_mono HO_416001.out (fun k_ hk => (⟨hk, hk.2⟩ : _ ∧ k_ ≠ gb420))) (fun _ hk => hk.2) (.int .i64 ((rd_T50 t412 x18_1).f0))) (fun _ hk => hk.2) (.int .i64 ((rd_T50 t412 x18_1).f1))) (fun _ hk => hk.2) (.int .i64 ((rd_T50 t412 x18_1).f2))) (fun _ h_ => h_.1)))) k_ hk, Kd.freshB (g := gb420) (o := .cells #[.int .i64 ((rd_T50 t412 x18_1).f0), .int .i64 ((rd_T50 t412 x18_1).f1), .int .i64 ((rd_T50 t412 x18_1).f2)] 50 (0, 0)) (by (with_reducible repeat (first | refine blk_drewN ?_ _ | refine blk_drew ?_ | refine blk_alloc ?_ _)); refine blk_put (cs := #[.int .i64 ((rd_T50 t412 x18_1).f0), .int .i64 ((rd_T50 t412 x18_1).f1), .int .i64 0]) ?_ 2 _ rfl; (with_reducible repeat (first | refine blk_drewN ?_ _ | refine blk_drew ?_ | refine blk_alloc ?_ _)); refine blk_put (cs := #[.int .i64 ((rd_T50 t412 x18_1).f0), .int .i64 0, .int .i64 0]) ?_ 1 _ rfl; (with_reducible repeat (first | refine blk_drewN ?_ _ | refine blk_drew ?_ | refine blk_alloc ?_ _)); refine blk_put (cs := #[.int .i64 0, .int .i64 0, .int .i64 0]) ?_ 0 _ rfl; (with_reducible repeat (first | refine blk_drewN ?_ _ | refine blk_drew ?_ | refine blk_alloc ?_ _)); exact BK420.out) k_ hk⟩)); (case aO => exact (by (with_reducible repeat (first | apply Kd.R_alloc | apply Kd.R_drewN | apply Kd.R_drew)); exact Kd.R_mono (Kd.R_far (p := ⟨gb420, 2, none⟩) (Kd.R_far (p := ⟨gb420, 1, none⟩) (Kd.R_far (p := ⟨gb420, 0, none⟩) (Kd.R_mono HO_419001.out (fun k_ hk => (⟨hk, hk.2⟩ : _ ∧ k_ ≠ gb420))) (fun _ hk => hk.2) (.int .i64 ((rd_T50 t412 x18_1).f0))) (fun _ hk => hk.2) (.int .i64 ((rd_T50 t412 x18_1).f1))) (fun _ hk => hk.2) (.int .i64 ((rd_T50 t412 x18_1).f2))) (fun _ hk => ⟨hk.1.1, hk.1.2⟩))); (case aS => exact (below_size (by repeat (first | (with_reducible first | exact HB.out | apply below_alloc | apply pw_below_drewN | apply below_drew1 | refine below_set ?_ GE415.out | refine below_set ?_ GE418.out | refine below_set ?_ GE420.out) | exact HB.out)))); (case aL => have := LMc25.out; omega); intro v422 w33 ho hb hg hat; rw [← Ny421.out] at ho; have n0_ := Aside0.mk (Kd.R_after (ok := (fun k_ => k_ ≠ gb420)) (by (with_reducible repeat (first | apply Kd.R_alloc | apply Kd.R_drewN | apply Kd.R_drew)); exact Kd.R_mono (Kd.R_far (p := ⟨gb420, 2, none⟩) (Kd.R_far (p := ⟨gb420, 1, none⟩) (Kd.R_far (p := ⟨gb420, 0, none⟩) (Kd.R_mono HO_416001.out (fun k_ hk => (⟨hk, hk.2⟩ : _ ∧ k_ ≠ gb420))) (fun _ hk => hk.2) (.int .i64 ((rd_T50 t412 x18_1).f0))) (fun _ hk => hk.2) (.int .i64 ((rd_T50 t412 x18_1).f1))) (fun _ hk => hk.2) (.int .i64 ((rd_T50 t412 x18_1).f2))) (fun _ hk => ⟨hk.1.2, hk.1.1⟩)) hg hat); have n1_ := Aside0.mk (blk_grown (g := gb415) (o := .cells #[.int .i64 t411, .slice (some ad419) t412.length co16] 24 (0, 0)) (by (with_reducible repeat (first | refine blk_drewN ?_ _ | refine blk_drew ?_ | refine blk_alloc ?_ _)); refine blk_far ?_ NB415_420.out _; (with_reducible repeat (first | refine blk_drewN ?_ _ | refine blk_drew ?_ | refine blk_alloc ?_ _)); refine blk_far ?_ NB415_420.out _; (with_reducible repeat (first | refine blk_drewN ?_ _ | refine blk_drew ?_ | refine blk_alloc ?_ _)); refine blk_far ?_ NB415_420.out _; (with_reducible repeat (first | refine blk_drewN ?_ _ | refine blk_drew ?_ | refine blk_alloc ?_ _)); exact BK415.out) hg (Kd.R_ne HO_419001.out BK415.out (by decide))); have n2_ := Aside0.mk (blk_grown (g := gb418) (o := .cells #[.int .i64 t411, u419001] 24 (0, 0)) (by (with_reducible repeat (first | refine blk_drewN ?_ _ | refine blk_drew ?_ | refine blk_alloc ?_ _)); refine blk_far ?_ NB418_420.out _; (with_reducible repeat (first | refine blk_drewN ?_ _ | refine blk_drew ?_ | refine blk_alloc ?_ _)); refine blk_far ?_ NB418_420.out _; (with_reducible repeat (first | refine blk_drewN ?_ _ | refine blk_drew ?_ | refine blk_alloc ?_ _)); refine blk_far ?_ NB418_420.out _; (with_reducible repeat (first | refine blk_drewN ?_ _ | refine blk_drew ?_ | refine blk_alloc ?_ _)); exact BK418.out) hg (Kd.R_ne HO_419001.out BK418.out (by decide))); have n3_ := Aside0.mk (blk_grown (g := gb420) (o := .cells #[.int .i64 ((rd_T50 t412 x18_1).f0), .int .i64 ((rd_T50 t412 x18_1).f1), .int .i64 ((rd_T50 t412 x18_1).f2)] 50 (0, 0)) (by (with_reducible repeat (first | refine blk_drewN ?_ _ | refine blk_drew ?_ | refine blk_alloc ?_ _)); refine blk_put (cs := #[.int .i64 ((rd_T50 t412 x18_1).f0), .int .i64 ((rd_T50 t412 x18_1).f1), .int .i64 0]) ?_ 2 _ rfl; (with_reducible repeat (first | refine blk_drewN ?_ _ | refine blk_drew ?_ | refine blk_alloc ?_ _)); refine blk_put (cs := #[.int .i64 ((rd_T50 t412 x18_1).f0), .int .i64 0, .int .i64 0]) ?_ 1 _ rfl; (with_reducible repeat (first | refine blk_drewN ?_ _ | refine blk_drew ?_ | refine blk_alloc ?_ _)); refine blk_put (cs := #[.int .i64 0, .int .i64 0, .int .i64 0]) ?_ 0 _ rfl; (with_reducible repeat (first | refine blk_drewN ?_ _ | refine blk_drew ?_ | refine blk_alloc ?_ _)); exact BK420.out) hg (Kd.R_away HO_419001.out (fun _ hk => hk.2))); have n4_ := Aside0.mk (hb); have n5_ := Aside0.mk (ho); clear HO_416001; clear BK415; clear BK418; clear BK420; clear HB; clear HO_419001; have HO_416001 := n0_; have BK415 := n1_; have BK418 := n2_; have BK420 := n3_; have HB := n4_; have HO423 := n5_; clear n0_ n1_ n2_ n3_ n4_ n5_; clear ho hb hg hat; obtain ⟨Ao34, co34, eo34⟩ := Kd.R_slice HO423.out; subst eo34; have hcz35_0 : w33.cell? ⟨gb418, 0, none⟩ = some (.int .i64 t411) := (blk_cell BK418.out 0).trans rfl; have hcz35_1 : w33.cell? ⟨gb418, 1, none⟩ = some (u419001) := (blk_cell BK418.out 1).trans rfl; have hfz35_0 := blk_frozen BK418.out 0; have hfz35_1 := blk_frozen BK418.out 1))
              go_roundg k1
              case measure => have := HK1.out; omega
              case rel => exact ⟨(wrap64 (x18_1 + 1)), (y421), (.slice Ao34 y421.length co34), (by first | rfl | (simp; done) | (simp [*]; done)), H', ⟨by have := HK1.out; omega⟩, ⟨by (with_reducible repeat (first | apply Kd.R_alloc | apply Kd.R_drewN | apply Kd.R_drew)); exact Kd.R_mono (Kd.R_far (p := ⟨gb418, 1, none⟩) (Kd.R_types HO_416001.out BK418.out (by decide)) (fun _ hk => hk.2) (.slice Ao34 y421.length co34)) (fun _ hk => hk.1.2)⟩, ⟨by (with_reducible repeat (first | apply Kd.R_alloc | apply Kd.R_drewN | apply Kd.R_drew)); exact Kd.R_mono (Kd.R_far (p := ⟨gb418, 1, none⟩) (Kd.R_types HO423.out BK418.out (by decide)) (fun _ hk => hk.2) (.slice Ao34 y421.length co34)) (fun _ hk => hk.1.1)⟩, ⟨by (with_reducible repeat (first | refine blk_drewN ?_ _ | refine blk_drew ?_ | refine blk_alloc ?_ _)); refine blk_far ?_ NB415_418.out _; (with_reducible repeat (first | refine blk_drewN ?_ _ | refine blk_drew ?_ | refine blk_alloc ?_ _)); exact BK415.out⟩, ⟨by (with_reducible repeat (first | refine blk_drewN ?_ _ | refine blk_drew ?_ | refine blk_alloc ?_ _)); refine blk_put (cs := #[.int .i64 t411, u419001]) ?_ 1 _ rfl; (with_reducible repeat (first | refine blk_drewN ?_ _ | refine blk_drew ?_ | refine blk_alloc ?_ _)); exact BK418.out⟩, ⟨by repeat (first | (with_reducible first | exact HB.out | apply below_alloc | apply pw_below_drewN | apply below_drew1 | refine below_set ?_ GE415.out | refine below_set ?_ GE418.out | refine below_set ?_ GE420.out) | exact HB.out)⟩⟩
            · rw [if_neg c25] at H
              exact absurd H (by simp)
          · rw [if_neg c24] at H
            exact absurd H (by simp)
        · rw [if_neg c23] at H
          have c23b0 : decide (x18_1 < (t412.length : Int)) = false := decide_eq_false c23
          clear c23
          replace H := Option.bind_eq_some_iff.mp H
          obtain ⟨⟨t424, t425, t426⟩, A360, H⟩ := H
          replace H : ((clock_At.f k1 t411 x419001_1 t417).bind fun bt427 => (if (t412.length : Int) = 0 then (dialtonelaw05_ClockMoves.j1 k1 true t416 t424 t425 bt427.1 bt427.2.1 true) else (if t426 = 0 then (if bt427.2.2 = 0 then (if t424 = 0 then (dialtonelaw05_ClockMoves.j1 k1 true t416 t424 t425 bt427.1 bt427.2.1 true) else (dialtonelaw05_ClockMoves.j1 k1 true t416 t424 t425 bt427.1 bt427.2.1 (bt427.1 == 0))) else (dialtonelaw05_ClockMoves.j1 k1 true t416 t424 t425 bt427.1 bt427.2.1 true)) else (dialtonelaw05_ClockMoves.j1 k1 true t416 t424 t425 bt427.1 bt427.2.1 true)))) = some r := H
          have A36 := Aside0.mk A360
          clear A360
          replace H := Option.bind_eq_some_iff.mp H
          obtain ⟨⟨t427, t428, t429⟩, A370, H⟩ := H
          replace H : (if (t412.length : Int) = 0 then (dialtonelaw05_ClockMoves.j1 k1 true t416 t424 t425 t427 t428 true) else (if t426 = 0 then (if t429 = 0 then (if t424 = 0 then (dialtonelaw05_ClockMoves.j1 k1 true t416 t424 t425 t427 t428 true) else (dialtonelaw05_ClockMoves.j1 k1 true t416 t424 t425 t427 t428 (t427 == 0))) else (dialtonelaw05_ClockMoves.j1 k1 true t416 t424 t425 t427 t428 true)) else (dialtonelaw05_ClockMoves.j1 k1 true t416 t424 t425 t427 t428 true))) = some r := H
          have A37 := Aside0.mk A370
          clear A370
          have HC38 := Aside0.mk H
          clear H
          have hnb39 := NB415_418.out
          have hnc39 := NB418_415.out
          have hcz40_0 : wr.cell? ⟨gb415, 0, none⟩ = some (.int .i64 t411) := (blk_cell BK415.out 0).trans rfl
          have hcz40_1 : wr.cell? ⟨gb415, 1, none⟩ = some (.slice Ao16 t412.length co16) := (blk_cell BK415.out 1).trans rfl
          have hfz40_0 := blk_frozen BK415.out 0
          have hfz40_1 := blk_frozen BK415.out 1
          go_upto_region 15 with (first | ((with_reducible refine gate_callee (f := 20) rfl ?_); refine goesL_ (some 72) rfl rfl Try.func20 (by kernel_rfl) rfl #[.agg #[.int .i64 t411, .slice Ao16 t412.length co16], .int .i64 t417] rfl (by (try simp only [List.map_toArray, List.map_cons, List.map_nil]); first | done | rfl | (simp only [List.length_drop, List.length_take]; rfl)) ?_; (with_reducible refine (clock_At.calls k1 t411 _ _ t412 t417 t424 t425 t426 _ ?side1 ?side2 A36.out).mono ?_); (case side1 => repeat (first | exact (Kd.R_reads' HO_416001.out).2.2 | (with_reducible refine Kd.C_alloc ?_ _) | (with_reducible refine Kd.C_drewN ?_ _) | (with_reducible refine Kd.C_drew ?_))); (case side2 => exact (Kd.R_reads' HO_416001.out).2.1); rintro e w41 ⟨rfl, hb⟩; refine ⟨_, rfl, ?_⟩; have n0_ := Aside0.mk (Kd.R_below (by (with_reducible repeat (first | apply Kd.R_alloc | apply Kd.R_drewN | apply Kd.R_drew)); exact HO_416001.out) hb); have n1_ := Aside0.mk (Kd.R_below (by (with_reducible repeat (first | apply Kd.R_alloc | apply Kd.R_drewN | apply Kd.R_drew)); exact HO_419001.out) hb); have n2_ := Aside0.mk (blk_below (g := gb415) (o := .cells #[.int .i64 t411, .slice Ao16 t412.length co16] 24 (0, 0)) (by (with_reducible repeat (first | refine blk_drewN ?_ _ | refine blk_drew ?_ | refine blk_alloc ?_ _)); exact BK415.out) hb); have n3_ := Aside0.mk (blk_below (g := gb418) (o := .cells #[.int .i64 t411, u419001] 24 (0, 0)) (by (with_reducible repeat (first | refine blk_drewN ?_ _ | refine blk_drew ?_ | refine blk_alloc ?_ _)); exact BK418.out) hb); have n4_ := Aside0.mk (below_step (by repeat (first | (with_reducible first | exact HB.out | apply below_alloc | apply pw_below_drewN | apply below_drew1 | refine below_set ?_ GE415.out | refine below_set ?_ GE418.out) | exact HB.out)) hb); clear HO_416001; clear HO_419001; clear BK415; clear BK418; clear HB; have HO_416001 := n0_; have HO_419001 := n1_; have BK415 := n2_; have BK418 := n3_; have HB := n4_; clear n0_ n1_ n2_ n3_ n4_; (try clear hb); (try clear hb2); (try clear hk); (try clear hi); have hcz42_0 : w41.cell? ⟨gb418, 0, none⟩ = some (.int .i64 t411) := (blk_cell BK418.out 0).trans rfl; have hcz42_1 : w41.cell? ⟨gb418, 1, none⟩ = some (u419001) := (blk_cell BK418.out 1).trans rfl; have hfz42_0 := blk_frozen BK418.out 0; have hfz42_1 := blk_frozen BK418.out 1; obtain ⟨Ao43, co43, eo43⟩ := Kd.R_slice HO_419001.out; subst eo43) | ((with_reducible refine gate_callee (f := 20) rfl ?_); refine goesL_ (some 79) rfl rfl Try.func20 (by kernel_rfl) rfl #[.agg #[.int .i64 t411, .slice Ao43 x419001_1.length co43], .int .i64 t417] rfl (by (try simp only [List.map_toArray, List.map_cons, List.map_nil]); first | done | rfl | (simp only [List.length_drop, List.length_take]; rfl)) ?_; (with_reducible refine (clock_At.calls k1 t411 _ _ x419001_1 t417 t427 t428 t429 _ ?side1 ?side2 A37.out).mono ?_); (case side1 => repeat (first | exact (Kd.R_reads' HO_419001.out).2.2 | (with_reducible refine Kd.C_alloc ?_ _) | (with_reducible refine Kd.C_drewN ?_ _) | (with_reducible refine Kd.C_drew ?_))); (case side2 => exact (Kd.R_reads' HO_419001.out).2.1); rintro e w44 ⟨rfl, hb⟩; refine ⟨_, rfl, ?_⟩; have n0_ := Aside0.mk (Kd.R_below (by (with_reducible repeat (first | apply Kd.R_alloc | apply Kd.R_drewN | apply Kd.R_drew)); exact HO_416001.out) hb); have n1_ := Aside0.mk (Kd.R_below (by (with_reducible repeat (first | apply Kd.R_alloc | apply Kd.R_drewN | apply Kd.R_drew)); exact HO_419001.out) hb); have n2_ := Aside0.mk (blk_below (g := gb415) (o := .cells #[.int .i64 t411, .slice Ao16 t412.length co16] 24 (0, 0)) (by (with_reducible repeat (first | refine blk_drewN ?_ _ | refine blk_drew ?_ | refine blk_alloc ?_ _)); exact BK415.out) hb); have n3_ := Aside0.mk (blk_below (g := gb418) (o := .cells #[.int .i64 t411, .slice Ao43 x419001_1.length co43] 24 (0, 0)) (by (with_reducible repeat (first | refine blk_drewN ?_ _ | refine blk_drew ?_ | refine blk_alloc ?_ _)); exact BK418.out) hb); have n4_ := Aside0.mk (below_step (by repeat (first | (with_reducible first | exact HB.out | apply below_alloc | apply pw_below_drewN | apply below_drew1 | refine below_set ?_ GE415.out | refine below_set ?_ GE418.out) | exact HB.out)) hb); clear HO_416001; clear HO_419001; clear BK415; clear BK418; clear HB; have HO_416001 := n0_; have HO_419001 := n1_; have BK415 := n2_; have BK418 := n3_; have HB := n4_; clear n0_ n1_ n2_ n3_ n4_; (try clear hb); (try clear hb2); (try clear hk); (try clear hi)))
          (try simp only [Act.put, List.setIfInBounds_toArray, List.set_cons_zero, List.set_cons_succ])
          go_cut [102] (fun v102 wc => ∃ (kq : Nat) (x102_37 : Bool), v102 = .bool x102_37 ∧ Aside0 (dialtonelaw05_ClockMoves.j1 kq true t416 t424 t425 t427 t428 x102_37 = some r) ∧ Aside0 (kq ≤ k1) ∧ Aside0 (Kd.R k50 50 wc w.heap.size (fun k_ => some k_ ≠ ((.slice Ao43 x419001_1.length co43) : Value).ownBlock) (.slice Ao16 t412.length co16) t412) ∧ Aside0 (Kd.R k50 50 wc w.heap.size (fun k_ => some k_ ≠ ((.slice Ao16 t412.length co16) : Value).ownBlock) (.slice Ao43 x419001_1.length co43) x419001_1) ∧ Aside0 (wc.heap[gb415]? = some (.cells #[.int .i64 t411, (.slice Ao16 t412.length co16)] 24 (0, 0))) ∧ Aside0 (wc.heap[gb418]? = some (.cells #[.int .i64 t411, (.slice Ao43 x419001_1.length co43)] 24 (0, 0))) ∧ Aside0 (Below w.heap.size w wc))
          case first =>
            have H := HC38.out
            clear HC38
            by_cases c45 : (t412.length : Int) = 0
            · rw [if_pos c45] at H
              have c45b0 : ((t412.length : Int) == 0) = true := beq_iff_eq.mpr c45
              have c45b1 : ((t412.length : Int) != 0) = false := bne_eq_false_iff_eq.mpr c45
              clear c45
              (first | rw [c45b0] | (simp only [i64_w, i32_w]; rw [c45b0]) | skip)
              have H' := Aside0.mk H
              clear H
              have hnb46 := NB415_418.out
              have hnc46 := NB418_415.out
              have hcz47_0 : w44.cell? ⟨gb415, 0, none⟩ = some (.int .i64 t411) := (blk_cell BK415.out 0).trans rfl
              have hcz47_1 : w44.cell? ⟨gb415, 1, none⟩ = some (.slice Ao16 t412.length co16) := (blk_cell BK415.out 1).trans rfl
              have hfz47_0 := blk_frozen BK415.out 0
              have hfz47_1 := blk_frozen BK415.out 1
              go_wp2
              go_meet
              case rel => exact ⟨_, (true), (by first | rfl | (simp; done) | (simp [*]; done)), H', ⟨by have := HK1.out; first | omega | exact Nat.le_refl _⟩, ⟨by (with_reducible repeat (first | apply Kd.R_alloc | apply Kd.R_drewN | apply Kd.R_drew)); exact HO_416001.out⟩, ⟨by (with_reducible repeat (first | apply Kd.R_alloc | apply Kd.R_drewN | apply Kd.R_drew)); exact HO_419001.out⟩, ⟨by (with_reducible repeat (first | refine blk_drewN ?_ _ | refine blk_drew ?_ | refine blk_alloc ?_ _)); exact BK415.out⟩, ⟨by (with_reducible repeat (first | refine blk_drewN ?_ _ | refine blk_drew ?_ | refine blk_alloc ?_ _)); exact BK418.out⟩, ⟨by repeat (first | (with_reducible first | exact HB.out | apply below_alloc | apply pw_below_drewN | apply below_drew1 | refine below_set ?_ GE415.out | refine below_set ?_ GE418.out) | exact HB.out)⟩⟩
            · rw [if_neg c45] at H
              have c45b0 : ((t412.length : Int) == 0) = false := beq_eq_false_iff_ne.mpr c45
              have c45b1 : ((t412.length : Int) != 0) = true := bne_iff_ne.mpr c45
              have c45b2 : ¬ (t412 = []) := fun h_ => c45 (by rw [h_]; rfl)
              (first | rw [c45b0] | (simp only [i64_w, i32_w]; rw [c45b0]) | skip)
              by_cases c48 : t426 = 0
              · rw [if_pos c48] at H
                have c48b0 : (t426 == 0) = true := beq_iff_eq.mpr c48
                have c48b1 : (t426 != 0) = false := bne_eq_false_iff_eq.mpr c48
                clear c48
                by_cases c49 : t429 = 0
                · rw [if_pos c49] at H
                  have c49b0 : (t429 == 0) = true := beq_iff_eq.mpr c49
                  have c49b1 : (t429 != 0) = false := bne_eq_false_iff_eq.mpr c49
                  clear c49
                  by_cases c50 : t424 = 0
                  · rw [if_pos c50] at H
                    have c50b0 : (t424 == 0) = true := beq_iff_eq.mpr c50
                    have c50b1 : (t424 != 0) = false := bne_eq_false_iff_eq.mpr c50
                    clear c50
                    have H' := Aside0.mk H
                    clear H
                    have hnb51 := NB415_418.out
                    have hnc51 := NB418_415.out
                    have hcz52_0 : w44.cell? ⟨gb415, 0, none⟩ = some (.int .i64 t411) := (blk_cell BK415.out 0).trans rfl
                    have hcz52_1 : w44.cell? ⟨gb415, 1, none⟩ = some (.slice Ao16 t412.length co16) := (blk_cell BK415.out 1).trans rfl
                    have hfz52_0 := blk_frozen BK415.out 0
                    have hfz52_1 := blk_frozen BK415.out 1
                    go_wp2
                    go_meet
                    case rel => exact ⟨_, (true), (by first | rfl | (simp; done) | (simp [*]; done)), H', ⟨by have := HK1.out; first | omega | exact Nat.le_refl _⟩, ⟨by (with_reducible repeat (first | apply Kd.R_alloc | apply Kd.R_drewN | apply Kd.R_drew)); exact HO_416001.out⟩, ⟨by (with_reducible repeat (first | apply Kd.R_alloc | apply Kd.R_drewN | apply Kd.R_drew)); exact HO_419001.out⟩, ⟨by (with_reducible repeat (first | refine blk_drewN ?_ _ | refine blk_drew ?_ | refine blk_alloc ?_ _)); exact BK415.out⟩, ⟨by (with_reducible repeat (first | refine blk_drewN ?_ _ | refine blk_drew ?_ | refine blk_alloc ?_ _)); exact BK418.out⟩, ⟨by repeat (first | (with_reducible first | exact HB.out | apply below_alloc | apply pw_below_drewN | apply below_drew1 | refine below_set ?_ GE415.out | refine below_set ?_ GE418.out) | exact HB.out)⟩⟩
                  · rw [if_neg c50] at H
                    have c50b0 : (t424 == 0) = false := beq_eq_false_iff_ne.mpr c50
                    have c50b1 : (t424 != 0) = true := bne_iff_ne.mpr c50
                    have H' := Aside0.mk H
                    clear H
                    have hnb53 := NB415_418.out
                    have hnc53 := NB418_415.out
                    have hcz54_0 : w44.cell? ⟨gb415, 0, none⟩ = some (.int .i64 t411) := (blk_cell BK415.out 0).trans rfl
                    have hcz54_1 : w44.cell? ⟨gb415, 1, none⟩ = some (.slice Ao16 t412.length co16) := (blk_cell BK415.out 1).trans rfl
                    have hfz54_0 := blk_frozen BK415.out 0
                    have hfz54_1 := blk_frozen BK415.out 1
                    go_wp2
                    go_meet
                    case rel => exact ⟨_, ((t427 == 0)), (by first | rfl | (simp; done) | (simp [*]; done)), H', ⟨by have := HK1.out; first | omega | exact Nat.le_refl _⟩, ⟨by (with_reducible repeat (first | apply Kd.R_alloc | apply Kd.R_drewN | apply Kd.R_drew)); exact HO_416001.out⟩, ⟨by (with_reducible repeat (first | apply Kd.R_alloc | apply Kd.R_drewN | apply Kd.R_drew)); exact HO_419001.out⟩, ⟨by (with_reducible repeat (first | refine blk_drewN ?_ _ | refine blk_drew ?_ | refine blk_alloc ?_ _)); exact BK415.out⟩, ⟨by (with_reducible repeat (first | refine blk_drewN ?_ _ | refine blk_drew ?_ | refine blk_alloc ?_ _)); exact BK418.out⟩, ⟨by repeat (first | (with_reducible first | exact HB.out | apply below_alloc | apply pw_below_drewN | apply below_drew1 | refine below_set ?_ GE415.out | refine below_set ?_ GE418.out) | exact HB.out)⟩⟩
                · rw [if_neg c49] at H
                  have c49b0 : (t429 == 0) = false := beq_eq_false_iff_ne.mpr c49
                  have c49b1 : (t429 != 0) = true := bne_iff_ne.mpr c49
                  have H' := Aside0.mk H
                  clear H
                  have hnb55 := NB415_418.out
                  have hnc55 := NB418_415.out
                  have hcz56_0 : w44.cell? ⟨gb415, 0, none⟩ = some (.int .i64 t411) := (blk_cell BK415.out 0).trans rfl
                  have hcz56_1 : w44.cell? ⟨gb415, 1, none⟩ = some (.slice Ao16 t412.length co16) := (blk_cell BK415.out 1).trans rfl
                  have hfz56_0 := blk_frozen BK415.out 0
                  have hfz56_1 := blk_frozen BK415.out 1
                  go_wp2
                  go_meet
                  case rel => exact ⟨_, (true), (by first | rfl | (simp; done) | (simp [*]; done)), H', ⟨by have := HK1.out; first | omega | exact Nat.le_refl _⟩, ⟨by (with_reducible repeat (first | apply Kd.R_alloc | apply Kd.R_drewN | apply Kd.R_drew)); exact HO_416001.out⟩, ⟨by (with_reducible repeat (first | apply Kd.R_alloc | apply Kd.R_drewN | apply Kd.R_drew)); exact HO_419001.out⟩, ⟨by (with_reducible repeat (first | refine blk_drewN ?_ _ | refine blk_drew ?_ | refine blk_alloc ?_ _)); exact BK415.out⟩, ⟨by (with_reducible repeat (first | refine blk_drewN ?_ _ | refine blk_drew ?_ | refine blk_alloc ?_ _)); exact BK418.out⟩, ⟨by repeat (first | (with_reducible first | exact HB.out | apply below_alloc | apply pw_below_drewN | apply below_drew1 | refine below_set ?_ GE415.out | refine below_set ?_ GE418.out) | exact HB.out)⟩⟩
              · rw [if_neg c48] at H
                have c48b0 : (t426 == 0) = false := beq_eq_false_iff_ne.mpr c48
                have c48b1 : (t426 != 0) = true := bne_iff_ne.mpr c48
                have H' := Aside0.mk H
                clear H
                have hnb57 := NB415_418.out
                have hnc57 := NB418_415.out
                have hcz58_0 : w44.cell? ⟨gb415, 0, none⟩ = some (.int .i64 t411) := (blk_cell BK415.out 0).trans rfl
                have hcz58_1 : w44.cell? ⟨gb415, 1, none⟩ = some (.slice Ao16 t412.length co16) := (blk_cell BK415.out 1).trans rfl
                have hfz58_0 := blk_frozen BK415.out 0
                have hfz58_1 := blk_frozen BK415.out 1
                go_wp2
                go_meet
                case rel => exact ⟨_, (true), (by first | rfl | (simp; done) | (simp [*]; done)), H', ⟨by have := HK1.out; first | omega | exact Nat.le_refl _⟩, ⟨by (with_reducible repeat (first | apply Kd.R_alloc | apply Kd.R_drewN | apply Kd.R_drew)); exact HO_416001.out⟩, ⟨by (with_reducible repeat (first | apply Kd.R_alloc | apply Kd.R_drewN | apply Kd.R_drew)); exact HO_419001.out⟩, ⟨by (with_reducible repeat (first | refine blk_drewN ?_ _ | refine blk_drew ?_ | refine blk_alloc ?_ _)); exact BK415.out⟩, ⟨by (with_reducible repeat (first | refine blk_drewN ?_ _ | refine blk_drew ?_ | refine blk_alloc ?_ _)); exact BK418.out⟩, ⟨by repeat (first | (with_reducible first | exact HB.out | apply below_alloc | apply pw_below_drewN | apply below_drew1 | refine below_set ?_ GE415.out | refine below_set ?_ GE418.out) | exact HB.out)⟩⟩
          case rest =>
            clear HC38
            try clear c1
            try clear c2
            try clear p2
            try clear c3
            try clear c4
            try clear p4
            try clear q4
            try clear hx4
            try clear c5
            try clear p6
            try clear c8
            try clear c9
            try clear c10
            try clear c16
            try clear c19
            try clear c20
            try clear c21
            try clear c23
            try clear c23b0
            try clear c24
            try clear c24b0
            try clear c25
            try clear c26
            try clear c29
            try clear c30
            try clear c39
            try clear p41
            try clear q41
            try clear hx41
            try clear c45
            try clear c45b0
            try clear c45b1
            try clear c45b2
            try clear c46
            try clear c48
            try clear c48b0
            try clear c48b1
            try clear c49
            try clear c49b0
            try clear c49b1
            try clear c50
            try clear c50b0
            try clear c50b1
            try clear c51
            try clear c53
            try clear c55
            try clear c57
            try clear hcz15_0
            try clear hcz15_1
            try clear hcz19_0
            try clear hcz19_1
            try clear hcz22_0
            try clear hcz22_1
            try clear hcz27_0
            try clear hcz27_1
            try clear hcz31_0
            try clear hcz31_1
            try clear hcz31_2
            try clear hcz32_0
            try clear hcz32_1
            try clear hcz35_0
            try clear hcz35_1
            try clear hcz40_0
            try clear hcz40_1
            try clear hcz42_0
            try clear hcz42_1
            try clear hcz47_0
            try clear hcz47_1
            try clear hcz52_0
            try clear hcz52_1
            try clear hcz54_0
            try clear hcz54_1
            try clear hcz56_0
            try clear hcz56_1
            try clear hcz58_0
            try clear hcz58_1
            try clear hfz15_0
            try clear hfz15_1
            try clear hfz19_0
            try clear hfz19_1
            try clear hfz22_0
            try clear hfz22_1
            try clear hfz27_0
            try clear hfz27_1
            try clear hfz31_0
            try clear hfz31_1
            try clear hfz31_2
            try clear hfz32_0
            try clear hfz32_1
            try clear hfz35_0
            try clear hfz35_1
            try clear hfz40_0
            try clear hfz40_1
            try clear hfz42_0
            try clear hfz42_1
            try clear hfz47_0
            try clear hfz47_1
            try clear hfz52_0
            try clear hfz52_1
            try clear hfz54_0
            try clear hfz54_1
            try clear hfz56_0
            try clear hfz56_1
            try clear hfz58_0
            try clear hfz58_1
            try clear hx419_0
            try clear hx419_1
            try clear hx419_2
            try clear p2
            try clear p419
            try clear q419
            obtain ⟨kq, x102_37, rfl, HA, HJ37, HO_416001, HO_419001, BK415, BK418, HB⟩ := hcut
            cases kq with
            | zero => exact absurd HA.out (by simp [dialtonelaw05_ClockMoves.j1])
            | succ kj37 =>
              have H := HA.out
              clear HA
              simp only [dialtonelaw05_ClockMoves.j1] at H
              by_cases c59 : x102_37 = true
              · subst c59
                have H1 : (some true) = some r := by rw [if_pos rfl] at H; exact H
                clear H
                have H := H1
                clear H1
                obtain rfl := Option.some.inj H
                go_wp2
                go_ret
                exact ⟨by first | rfl | (simp [errW_none, errW_some] <;> rfl) | (simp [*, errW_none, errW_some] <;> rfl), by repeat (first | (with_reducible first | exact HB.out | apply below_alloc | apply pw_below_drewN | apply below_drew1 | refine below_set ?_ GE415.out | refine below_set ?_ GE418.out) | exact HB.out)⟩
              · replace c59 := Bool.eq_false_iff.mpr c59
                subst c59
                have H1 : (if t427 = (wrap64 (t424 + t416)) then (some (t428 == (wrap64 (t425 + t416)))) else (none)) = some r := by rw [if_neg (show ¬ (false = true) by decide)] at H; exact H
                clear H
                have H := H1
                clear H1
                by_cases c60 : t427 = (wrap64 (t424 + t416))
                · rw [if_pos c60] at H
                  have c60b0 : (t427 == (wrap64 (t424 + t416))) = true := beq_iff_eq.mpr c60
                  have c60b1 : (t427 != (wrap64 (t424 + t416))) = false := bne_eq_false_iff_eq.mpr c60
                  clear c60
                  obtain rfl := Option.some.inj H
                  go_wp2
                  go_ret
                  exact ⟨by first | rfl | (simp [errW_none, errW_some] <;> rfl) | (simp [*, errW_none, errW_some] <;> rfl), by repeat (first | (with_reducible first | exact HB.out | apply below_alloc | apply pw_below_drewN | apply below_drew1 | refine below_set ?_ GE415.out | refine below_set ?_ GE418.out) | exact HB.out)⟩
                · rw [if_neg c60] at H
                  exact absurd H (by simp)
  · replace c8 := Bool.eq_false_iff.mpr c8
    subst c8
    have H1 : (none) = some r := by rw [if_neg (show ¬ (false = true) by decide)] at H; exact H
    clear H
    have H := H1
    clear H1
    exact absurd H (by simp)

end Go.Proofs.Ythbonailomfjlaa.C
