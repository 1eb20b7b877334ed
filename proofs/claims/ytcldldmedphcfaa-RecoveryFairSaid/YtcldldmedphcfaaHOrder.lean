import Derived.Test.YtcldldmedphcfaaCKinds
import Derived.Test.YtcldldmedphcfaaHRow
import Derived.Test.YtcldldmedphcfaaShelf
import Derived.Shelf.SlSortCmp.NoneTotal
import Derived.BigRegion
import Derived.Deep.RegionWith
import Derived.Deep.QuietTactic
import Derived.BigQuiet
/- The contract of recovery.ordered: the attempts in their order, in a row of their own; by hand: cmp.Or, the closure, slices.SortFunc by the shelf's contract, slices.Clone. Condition: fewer than 1000 attempts. -/
namespace Go.Proofs.Ytcldldmedphcfaa.C
open Go.RowKit Go.Proofs.YtcldldmedphcfaaW.PrintWords Go.Proofs.YtcldldmedphcfaaW.PrintLast Go.Proofs.YtcldldmedphcfaaW.PrintMore Go.Sort Go.Shelf
set_option linter.unusedVariables false
set_option linter.unusedSimpArgs false
instance : Inhabited S60 := ⟨⟨0, 0, false⟩⟩
/-- An attempt's three cells. -/
def encAtt (x : S60) : List Value := [.int .i64 x.f0, .int .i64 x.f1, .bool x.f2]
def cmpI (x y : Int) : Int := if x < y then -1 else if y < x then 1 else 0
/-- The order of attempts: the tick, and then the caller. -/
def cmpAtt (x y : S60) : Int := if cmpI x.f1 y.f1 = 0 then cmpI x.f0 y.f0 else cmpI x.f1 y.f1
theorem ltAtt (x y : S60) : ltOf cmpAtt x y = decide (x.f1 < y.f1 ∨ x.f1 = y.f1 ∧ x.f0 < y.f0) := by
  unfold ltOf cmpAtt cmpI
  rcases Int.lt_trichotomy x.f1 y.f1 with h | h | h
  · rw [if_pos h]
    simp [h]
  · rw [if_neg (show ¬ x.f1 < y.f1 by omega), if_neg (show ¬ y.f1 < x.f1 by omega)]
    simp only [if_true]
    rcases Int.lt_trichotomy x.f0 y.f0 with q | q | q
    · rw [if_pos q]
      simp [h, q]
    · rw [if_neg (by omega), if_neg (by omega)]
      have : ¬ (x.f1 < y.f1 ∨ x.f1 = y.f1 ∧ x.f0 < y.f0) := by omega
      simp [this]
    · rw [if_neg (by omega), if_pos q]
      have : ¬ (x.f1 < y.f1 ∨ x.f1 = y.f1 ∧ x.f0 < y.f0) := by omega
      simp [this]
  · have : ¬ (x.f1 < y.f1 ∨ x.f1 = y.f1 ∧ x.f0 < y.f0) := by omega
    rw [decide_eq_false this, if_neg (by rw [if_neg (by omega), if_pos h]; omega), if_neg (by omega), if_pos h]
    rfl
theorem swoAtt : SWO (ltOf cmpAtt) where
  irrefl x := by rw [ltAtt]; simp
  trans x y z h1 h2 := by rw [ltAtt] at *; simp at *; omega
  ntrans x y z h1 h2 := by rw [ltAtt] at *; simp at *; omega
set_option maxHeartbeats 1000000 in
theorem compare45 (x y : Int) (w : World) : Calls Try.prog 45 #[.int .i64 x, .int .i64 y] w fun e w' => e = .returned (.int .i64 (cmpI x y)) ∧ w = w' := by
  unfold cmpI
  rcases Int.lt_trichotomy x y with h | h | h
  · rw [if_pos h]
    go_enter Try.func45, Try.ntmps45
    go_wp2
    go_ret
    exact ⟨rfl, rfl⟩
  · subst h
    rw [if_neg (by omega), if_neg (by omega)]
    go_enter Try.func45, Try.ntmps45
    go_wp2
    go_ret
    exact ⟨rfl, rfl⟩
  · rw [if_neg (by omega), if_pos h]
    have h' : ¬ x < y := by omega
    go_enter Try.func45, Try.ntmps45
    go_wp2
    go_ret
    exact ⟨rfl, rfl⟩
set_option maxHeartbeats 1000000 in
theorem or55 (g : Nat) (a b : Int) (w : World) (h0 : w.cell? ⟨g, 0, none⟩ = some (.int .i64 a)) (h1 : w.cell? ⟨g, 1, none⟩ = some (.int .i64 b)) :
    Calls Try.prog 55 #[.slice (some ⟨g, 0, none⟩) 2 2] w fun e w' => e = .returned (.int .i64 (if a = 0 then b else a)) ∧ w = w' := by
  obtain ⟨r, hr⟩ : ∃ r, (if a = 0 then b else a) = r := ⟨_, rfl⟩
  rw [hr]
  have HR := Aside0.mk hr
  have H0 := Aside0.mk h0
  have H1 := Aside0.mk h1
  clear hr h0 h1
  go_enter Try.func55, Try.ntmps55
  go_wp2
  go_loopw [8] (fun v wr => ∃ i : Int, v = .int .i64 i ∧ 0 ≤ i ∧ i ≤ 2 ∧ Aside0 (1 ≤ i → a = 0) ∧ Aside0 (2 ≤ i → b = 0) ∧ wr = w) (fun v _ => 2 - (intOf v).toNat)
  case atStart => exact ⟨0, rfl, by omega, by omega, ⟨by omega⟩, ⟨by omega⟩, rfl⟩
  case round =>
    obtain ⟨i, rfl, hi0, hi2, HA, HB, rfl⟩ := hrel
    rcases (show i = 0 ∨ i = 1 ∨ i = 2 by omega) with rfl | rfl | rfl
    · have hz := H0.out
      by_cases c : a = 0
      · have hr : b = r := by have := HR.out; rw [if_pos c] at this; exact this
        subst c
        go_wp2
        all_goals
          go_roundw
          case rel => exact ⟨1, rfl, by omega, by omega, ⟨by simp⟩, ⟨by omega⟩, by first | rfl | trivial⟩
          case measure => simp [intOf]
      · have hr : a = r := by have := HR.out; rw [if_neg c] at this; exact this
        subst hr
        go_wp2
        go_ret
        exact ⟨rfl, rfl⟩
    · have hz := H1.out
      have ha := HA.out (by omega)
      have hr : b = r := by have := HR.out; rw [if_pos ha] at this; exact this
      subst hr
      by_cases c : b = 0
      · subst c
        go_wp2
        all_goals
          go_roundw
          case rel => exact ⟨2, rfl, by omega, by omega, ⟨fun _ => ha⟩, ⟨by simp⟩, by first | rfl | trivial⟩
          case measure => simp [intOf]
      · go_wp2
        go_ret
        exact ⟨rfl, rfl⟩
    · have ha := HA.out (by omega)
      have hb := HB.out (by omega)
      have hr : b = r := by have := HR.out; rw [if_pos ha] at this; exact this
      rw [hb] at hr
      subst hr
      go_wp2
      go_ret
      exact ⟨rfl, rfl⟩
/-- Only new blocks and draws. -/
def Gr (w W : World) : Prop := ∃ q os, W = grow (w.drewN q) os
theorem Gr_refl (w : World) : Gr w w := ⟨0, #[], by rfl⟩
theorem Gr_alloc {w W : World} (h : Gr w W) (o : Obj) : Gr w (W.alloc o) := by
  obtain ⟨q, os, rfl⟩ := h
  exact ⟨q, _, by rw [alloc_eq_grow, grow_grow]⟩
theorem Gr_drew {w W : World} (h : Gr w W) : Gr w W.drew := by
  obtain ⟨q, os, rfl⟩ := h
  exact ⟨q + 1, os, by rfl⟩
def recovery_ordered_1.T1 : Bool × List (List Nat × List Nat) := (true, [([], []), ([0], [0]), ([], []), ([2], [2]), ([1, 3], [1, 3]), ([], []), ([5], [5]), ([], []), ([7], [7]), ([6, 8, 4], [6, 8]), ([4, 9], [4, 9]), ([10, 9], [10]), ([11, 11, 0, 1, 2, 3, 4, 5, 6, 7, 8, 9, 10, 11], [11])])
def recovery_ordered_1.B1 : List Nat := [0, 1, 0, 4, 15, 0, 32, 0, 128, 511, 1023, 2047, 4095]
theorem recovery_ordered_1.tab1 : rtab .any (opsOf Try.f54 1) = recovery_ordered_1.T1 := by kernel_rfl
theorem recovery_ordered_1.bits1 : waitsOk recovery_ordered_1.T1.2 recovery_ordered_1.B1 = true := by kernel_rfl
set_option maxHeartbeats 8000000 in
set_option maxRecDepth 100000 in
theorem closure54 (x y : S60) (w : World) : Calls Try.prog 54 #[.agg (encAtt x).toArray, .agg (encAtt y).toArray] w fun e w' => e = .returned (.int .i64 (cmpAtt x y)) ∧ ∃ q os', w' = grow (w.drewN q) os' := by
  obtain ⟨a0_0, a0_1, a0_2⟩ := x
  obtain ⟨a1_0, a1_1, a1_2⟩ := y
  show Calls Try.prog 54 #[.agg #[.int .i64 a0_0, .int .i64 a0_1, .bool a0_2], .agg #[.int .i64 a1_0, .int .i64 a1_1, .bool a1_2]] w fun e w' => e = .returned (.int .i64 (if cmpI a0_1 a1_1 = 0 then cmpI a0_0 a1_0 else cmpI a0_1 a1_1)) ∧ Gr w w'
  have hu60 := Try.underlying60
  generalize hp : cmpI a0_1 a1_1 = t728
  generalize hq : cmpI a0_0 a1_0 = t729
  have HP := Aside0.mk hp
  have HQ := Aside0.mk hq
  clear hp hq
  obtain ⟨t733, hr⟩ : ∃ r, (if t728 = 0 then t729 else t728) = r := ⟨_, rfl⟩
  have HR := Aside0.mk hr
  rw [hr]
  clear hr
  have BK726 := Aside0.mk (blk_alloc (heap_alloc_new w (.cells #[.int .i64 a0_0, .int .i64 a0_1, .bool a0_2] 60)) (.cells #[.int .i64 a1_0, .int .i64 a1_1, .bool a1_2] 60))
  have BK727 : Aside0 (((w.alloc (.cells #[.int .i64 a0_0, .int .i64 a0_1, .bool a0_2] 60)).alloc (.cells #[.int .i64 a1_0, .int .i64 a1_1, .bool a1_2] 60)).heap[w.heap.size + 1]? = some (.cells #[.int .i64 a1_0, .int .i64 a1_1, .bool a1_2] 60 (0, 0))) := ⟨by
    have := heap_alloc_new (w.alloc (.cells #[.int .i64 a0_0, .int .i64 a0_1, .bool a0_2] 60)) (.cells #[.int .i64 a1_0, .int .i64 a1_1, .bool a1_2] 60)
    rwa [World.size_alloc] at this⟩
  have HB := Aside0.mk (Gr_alloc (Gr_alloc (Gr_refl w) (.cells #[.int .i64 a0_0, .int .i64 a0_1, .bool a0_2] 60)) (.cells #[.int .i64 a1_0, .int .i64 a1_1, .bool a1_2] 60))
  go_enter Try.func54, Try.ntmps54
  go_wp2
  generalize (w.alloc (.cells #[.int .i64 a0_0, .int .i64 a0_1, .bool a0_2] 60)).alloc (.cells #[.int .i64 a1_0, .int .i64 a1_1, .bool a1_2] 60) = w7 at BK726 BK727 HB ⊢
  generalize w.heap.size + 1 = gb727 at BK727 ⊢
  generalize w.heap.size = gb726 at BK726 ⊢
  have n0_ := Aside0.mk (blk_drew BK726.out)
  have n1_ := Aside0.mk (blk_drew BK727.out)
  have n2_ := Aside0.mk (Gr_drew HB.out)
  clear BK726
  clear BK727
  clear HB
  have BK726 := n0_
  have BK727 := n1_
  have HB := n2_
  clear n0_ n1_ n2_
  refine start_ (n := 13) (S := fun w' => w'.cell? ⟨gb726, 0, none⟩ = some (.int .i64 a0_0) ∧ w'.cell? ⟨gb726, 1, none⟩ = some (.int .i64 a0_1) ∧ w'.cell? ⟨gb726, 2, none⟩ = some (.bool a0_2) ∧ w'.cell? ⟨gb727, 0, none⟩ = some (.int .i64 a1_0) ∧ w'.cell? ⟨gb727, 1, none⟩ = some (.int .i64 a1_1) ∧ w'.cell? ⟨gb727, 2, none⟩ = some (.bool a1_2)) (ds := []) #[false, false, false, false, false, false, false, false, false, false, false, false, false] (by kernel_rfl) rfl rfl ⟨(blk_cell BK726.out 0).trans rfl, (blk_cell BK726.out 1).trans rfl, (blk_cell BK726.out 2).trans rfl, (blk_cell BK727.out 0).trans rfl, (blk_cell BK727.out 1).trans rfl, (blk_cell BK727.out 2).trans rfl⟩ (fun hHeld => ?_); refine with_tabW recovery_ordered_1.tab1 recovery_ordered_1.bits1 (fun HT_ HW_ => ?_)
  generalize w7.drew = w8 at BK726 BK727 HB hHeld ⊢
  refine pure_ (i := 0) (N := some 5) (v := ?_) (a' := ?_) #[true, false, false, false, false, false, false, false, false, false, false, false, false] rfl rfl (any_of HT_.out (by kernel_rfl)) (fun _ _ _ h => h) (Or.inl ⟨by rfl, ?_⟩) ?_ ?_
  rotate_left
  · intro w'
    go_simp
    with_reducible rfl
  rotate_left
  · simp only [Act.put, List.setIfInBounds_toArray, List.set_cons_zero, List.set_cons_succ, i64_w, i32_w]
    rfl
  refine pure_ (i := 2) (N := some 7) (v := ?_) (a' := ?_) #[true, false, true, false, false, false, false, false, false, false, false, false, false] rfl rfl (any_of HT_.out (by kernel_rfl)) (fun _ _ _ h => h) (Or.inl ⟨by rfl, ?_⟩) ?_ ?_
  rotate_left
  · intro w'
    go_simp
    with_reducible rfl
  rotate_left
  · simp only [Act.put, List.setIfInBounds_toArray, List.set_cons_zero, List.set_cons_succ, i64_w, i32_w]
    rfl
  refine pure_ (i := 5) (N := some 10) (v := ?_) (a' := ?_) #[true, false, true, false, false, true, false, false, false, false, false, false, false] rfl rfl (any_of HT_.out (by kernel_rfl)) (fun _ _ _ h => h) (Or.inl ⟨by rfl, ?_⟩) ?_ ?_
  rotate_left
  · intro w'
    go_simp
    with_reducible rfl
  rotate_left
  · simp only [Act.put, List.setIfInBounds_toArray, List.set_cons_zero, List.set_cons_succ, i64_w, i32_w]
    rfl
  refine pure_ (i := 7) (N := some 12) (v := ?_) (a' := ?_) #[true, false, true, false, false, true, false, true, false, false, false, false, false] rfl rfl (any_of HT_.out (by kernel_rfl)) (fun _ _ _ h => h) (Or.inl ⟨by rfl, ?_⟩) ?_ ?_
  rotate_left
  · intro w'
    go_simp
    with_reducible rfl
  rotate_left
  · simp only [Act.put, List.setIfInBounds_toArray, List.set_cons_zero, List.set_cons_succ, i64_w, i32_w]
    rfl
  refine take_ (i := 1) (N := some 6) (v := ?_) (a' := ?_) #[true, true, true, false, false, true, false, true, false, false, false, false, false] rfl rfl (take_ofW HT_.out HW_.out (by kernel_rfl)) (fun _ _ _ h => h) (Or.inl ⟨by rfl, ?_⟩) hHeld ?_ ?_
  rotate_left
  · rintro w' ⟨s0, s1, s2, s3, s4, s5⟩
    go_simp
    with_reducible rfl
  rotate_left
  · simp only [Act.put, List.setIfInBounds_toArray, List.set_cons_zero, List.set_cons_succ, i64_w, i32_w]
    rfl
  refine take_ (i := 3) (N := some 8) (v := ?_) (a' := ?_) #[true, true, true, true, false, true, false, true, false, false, false, false, false] rfl rfl (take_ofW HT_.out HW_.out (by kernel_rfl)) (fun _ _ _ h => h) (Or.inl ⟨by rfl, ?_⟩) hHeld ?_ ?_
  rotate_left
  · rintro w' ⟨s0, s1, s2, s3, s4, s5⟩
    go_simp
    with_reducible rfl
  rotate_left
  · simp only [Act.put, List.setIfInBounds_toArray, List.set_cons_zero, List.set_cons_succ, i64_w, i32_w]
    rfl
  refine take_ (i := 6) (N := some 11) (v := ?_) (a' := ?_) #[true, true, true, true, false, true, true, true, false, false, false, false, false] rfl rfl (take_ofW HT_.out HW_.out (by kernel_rfl)) (fun _ _ _ h => h) (Or.inl ⟨by rfl, ?_⟩) hHeld ?_ ?_
  rotate_left
  · rintro w' ⟨s0, s1, s2, s3, s4, s5⟩
    go_simp
    with_reducible rfl
  rotate_left
  · simp only [Act.put, List.setIfInBounds_toArray, List.set_cons_zero, List.set_cons_succ, i64_w, i32_w]
    rfl
  refine take_ (i := 8) (N := some 13) (v := ?_) (a' := ?_) #[true, true, true, true, false, true, true, true, true, false, false, false, false] rfl rfl (take_ofW HT_.out HW_.out (by kernel_rfl)) (fun _ _ _ h => h) (Or.inl ⟨by rfl, ?_⟩) hHeld ?_ ?_
  rotate_left
  · rintro w' ⟨s0, s1, s2, s3, s4, s5⟩
    go_simp
    with_reducible rfl
  rotate_left
  · simp only [Act.put, List.setIfInBounds_toArray, List.set_cons_zero, List.set_cons_succ, i64_w, i32_w]
    rfl
  refine one_ (i := 4) (N := some 9) #[true, true, true, true, true, true, true, true, true, false, false, false, false] rfl rfl (one_of HT_.out (by kernel_rfl)) (by decide) (fun K hK => ?_)
  refine goes_ Try.func45 (by kernel_rfl) rfl #[.int .i64 a0_1, .int .i64 a1_1] (by rfl) rfl rfl (by (try simp only [List.map_toArray, List.map_cons, List.map_nil]); first | done | rfl | (simp only [List.length_drop, List.length_take]; rfl)) ?_
  refine (compare45 a0_1 a1_1 _).mono ?_
  rw [HP.out]
  rintro e w' ⟨rfl, rfl⟩
  refine ⟨_, rfl, ?_⟩
  refine hK.out _ _ ⟨(blk_cell BK726.out 0).trans rfl, (blk_cell BK726.out 1).trans rfl, (blk_cell BK726.out 2).trans rfl, (blk_cell BK727.out 0).trans rfl, (blk_cell BK727.out 1).trans rfl, (blk_cell BK727.out 2).trans rfl⟩ (fun hHeld => ?_)
  clear hK K
  refine norm_ (a' := ?_) ?_ ?_
  rotate_left
  · show Act.put _ (some 9) _ = _
    simp only [Act.put, List.setIfInBounds_toArray, List.set_cons_zero, List.set_cons_succ, i64_w, i32_w]
    rfl
  refine one_ (i := 9) (N := some 14) #[true, true, true, true, true, true, true, true, true, true, false, false, false] rfl rfl (one_of HT_.out (by kernel_rfl)) (by decide) (fun K hK => ?_)
  refine goes_ Try.func45 (by kernel_rfl) rfl #[.int .i64 a0_0, .int .i64 a1_0] (by rfl) rfl rfl (by (try simp only [List.map_toArray, List.map_cons, List.map_nil]); first | done | rfl | (simp only [List.length_drop, List.length_take]; rfl)) ?_
  refine (compare45 a0_0 a1_0 _).mono ?_
  rw [HQ.out]
  rintro e w' ⟨rfl, rfl⟩
  refine ⟨_, rfl, ?_⟩
  refine hK.out _ _ ⟨(blk_cell BK726.out 0).trans rfl, (blk_cell BK726.out 1).trans rfl, (blk_cell BK726.out 2).trans rfl, (blk_cell BK727.out 0).trans rfl, (blk_cell BK727.out 1).trans rfl, (blk_cell BK727.out 2).trans rfl⟩ (fun hHeld => ?_)
  clear hK K
  refine norm_ (a' := ?_) ?_ ?_
  rotate_left
  · show Act.put _ (some 14) _ = _
    simp only [Act.put, List.setIfInBounds_toArray, List.set_cons_zero, List.set_cons_succ, i64_w, i32_w]
    rfl
  refine one_ (i := 10) (N := some 15) #[true, true, true, true, true, true, true, true, true, true, true, false, false] rfl rfl (one_of HT_.out (by kernel_rfl)) (by decide) (fun K hK => ?_)
  refine event_step (v := Value.slice (some ⟨w8.heap.size, 0, none⟩) 2 2) (w1 := w8.alloc (.cells #[.int .i64 t728, .int .i64 t729] 3)) ?hg ?hr ?_
  case hg => rfl
  case hr => first | (go_simp; done) | (go_simp; rfl)
  have BK9 := Aside0.mk (heap_alloc_new w8 (.cells #[.int .i64 t728, .int .i64 t729] 3))
  have n1_ := Aside0.mk (blk_alloc BK726.out (.cells #[.int .i64 t728, .int .i64 t729] 3))
  have n2_ := Aside0.mk (blk_alloc BK727.out (.cells #[.int .i64 t728, .int .i64 t729] 3))
  have n3_ := Aside0.mk (Gr_alloc HB.out (.cells #[.int .i64 t728, .int .i64 t729] 3))
  clear BK726 BK727 HB
  have BK726 := n1_
  have BK727 := n2_
  have HB := n3_
  clear n1_ n2_ n3_
  refine hK.out _ _ ⟨(blk_cell BK726.out 0).trans rfl, (blk_cell BK726.out 1).trans rfl, (blk_cell BK726.out 2).trans rfl, (blk_cell BK727.out 0).trans rfl, (blk_cell BK727.out 1).trans rfl, (blk_cell BK727.out 2).trans rfl⟩ (fun hHeld => ?_)
  clear hK K
  refine norm_ (a' := ?_) ?_ ?_
  rotate_left
  · show Act.put _ (some 15) _ = _
    simp only [Act.put, List.setIfInBounds_toArray, List.set_cons_zero, List.set_cons_succ, i64_w, i32_w]
    rfl
  refine one_ (i := 11) (N := some 16) #[true, true, true, true, true, true, true, true, true, true, true, true, false] rfl rfl (one_of HT_.out (by kernel_rfl)) (by decide) (fun K hK => ?_)
  refine goes_ Try.func55 (by kernel_rfl) rfl #[.slice (some ⟨_, 0, none⟩) 2 2] (by rfl) rfl rfl (by (try simp only [List.map_toArray, List.map_cons, List.map_nil]); first | done | rfl | (simp only [List.length_drop, List.length_take]; rfl)) ?_
  refine (or55 _ t728 t729 _ ((blk_cell BK9.out 0).trans rfl) ((blk_cell BK9.out 1).trans rfl)).mono ?_
  rw [HR.out]
  rintro e w' ⟨rfl, rfl⟩
  refine ⟨_, rfl, ?_⟩
  refine hK.out _ _ ⟨(blk_cell BK726.out 0).trans rfl, (blk_cell BK726.out 1).trans rfl, (blk_cell BK726.out 2).trans rfl, (blk_cell BK727.out 0).trans rfl, (blk_cell BK727.out 1).trans rfl, (blk_cell BK727.out 2).trans rfl⟩ (fun hHeld => ?_)
  clear hK K
  refine norm_ (a' := ?_) ?_ ?_
  rotate_left
  · show Act.put _ (some 16) _ = _
    simp only [Act.put, List.setIfInBounds_toArray, List.set_cons_zero, List.set_cons_succ, i64_w, i32_w]
    rfl
  refine pure_ (i := 12) (N := some 4) (v := ?_) (a' := ?_) #[true, true, true, true, true, true, true, true, true, true, true, true, true] rfl rfl (any_of HT_.out (by kernel_rfl)) (fun _ _ _ h => h) (Or.inl ⟨by rfl, ?_⟩) ?_ ?_
  rotate_left
  · intro w'
    go_simp
    with_reducible rfl
  rotate_left
  · simp only [Act.put, List.setIfInBounds_toArray, List.set_cons_zero, List.set_cons_succ, i64_w, i32_w]
    rfl
  refine done_ (done_of HT_.out (by kernel_rfl)) ?_
  try go_wp2
  go_ret
  exact ⟨rfl, HB.out⟩
end Go.Proofs.Ytcldldmedphcfaa.C
