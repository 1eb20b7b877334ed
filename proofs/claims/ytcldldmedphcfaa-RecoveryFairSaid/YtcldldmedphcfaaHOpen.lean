import Derived.Test.YtcldldmedphcfaaHPlanS
import Derived.RangeFuncSeq
import Derived.TacticsIn
import Derived.TacticsInMore
import Derived.LoopIn
import Derived.LoopNIn
import Derived.RegionIn
import Derived.Stop.RegionWithIn
import Derived.BigRegionIn
import Derived.Sort.AtCallIn
/- The iterator of recovery.open: it hands over the first tick at which there is room, if the loop's body then leaves. Conditions: a valid region; a tick that is not negative. -/
namespace Go.Proofs.Ytcldldmedphcfaa.C
open Go.RowKit Go.Proofs.YtcldldmedphcfaaW.PrintWords Go.Proofs.YtcldldmedphcfaaW.PrintLast Go.Proofs.YtcldldmedphcfaaW.PrintMore
set_option linter.unusedVariables false
/-- What the iterator reads stands in the world. -/
def RBo (A : Option Addr) (n c : Nat) (s : Int) (bR bM bF mb nm : Nat) (g : Int → Option Int) (from_ : Int) (W : World) : Prop :=
  W.heap[bR]? = some (.cells #[.slice A n c, .int .i64 s] 26 (0, 0)) ∧ W.heap[bM]? = some (.cells #[.map (some mb)] 72 (0, 0)) ∧ W.heap[bF]? = some (.cells #[.int .i64 from_] 3 (0, 0)) ∧ MI W mb nm g
theorem RBo_below {A : Option Addr} {n c : Nat} {s : Int} {bR bM bF mb nm : Nat} {g : Int → Option Int} {from_ : Int} {W W' : World} (h : RBo A n c s bR bM bF mb nm g from_ W) (hb : Below W.heap.size W W') : RBo A n c s bR bM bF mb nm g from_ W' :=
  ⟨blk_below h.1 hb, blk_below h.2.1 hb, blk_below h.2.2.1 hb, MI_below h.2.2.2 hb⟩
theorem RBo_cells {A : Option Addr} {n c : Nat} {s : Int} {bR bM bF mb nm : Nat} {g : Int → Option Int} {from_ : Int} {W : World} (h : RBo A n c s bR bM bF mb nm g from_ W) :
    W.cell? ⟨bR, 0, none⟩ = some (.slice A n c) ∧ W.cell? ⟨bR, 1, none⟩ = some (.int .i64 s) ∧ W.cell? ⟨bM, 0, none⟩ = some (.map (some mb)) ∧ W.cell? ⟨bF, 0, none⟩ = some (.int .i64 from_) :=
  ⟨(blk_cell h.1 0).trans rfl, (blk_cell h.1 1).trans rfl, (blk_cell h.2.1 0).trans rfl, (blk_cell h.2.2.1 0).trans rfl⟩
set_option maxHeartbeats 8000000 in
set_option maxRecDepth 100000 in
theorem open56 (n : Nat) (hn : 1 ≤ n) (l bR bM bF mb nm : Nat) (A : Option Addr) (c : Nat) (S : List S67) (s from_ t : Int) (g : Int → Option Int) (K : Nat) (W : World) (Post : World → Prop)
    (hv : validB S s = true) (h0 : 0 ≤ from_) (h1 : from_ + K ≤ 1000000) (hf : findOpen S (fun k => (g k).getD 0) K from_ = some t)
    (hB : RBo A S.length c s bR bM bF mb nm g from_ W) (hC : Kd.C k67 W A S.length S) (hc : S.length ≤ c)
    (hY : ∀ W1, Below W.heap.size W W1 → YieldAt Fence.wide (n - 1) Try.prog l #[.int .i64 t] W1 (fun e W' => e = .returned (.bool false) ∧ Post W')) :
    CallsIn Fence.wide n Try.prog 56 #[.func (.yield l) #[] #[], .pointer (some ⟨bF, 0, none⟩), .pointer (some ⟨bM, 0, none⟩), .pointer (some ⟨bR, 0, none⟩)] W fun e W' => (∃ v, e = .returned v) ∧ Post W' := by
  have HB := Aside0.mk hB
  have HC := Aside0.mk hC
  have HY := Aside0.mk hY
  have HV := Aside0.mk hv
  have HF := Aside0.mk hf
  have HK := Aside0.mk h1
  obtain ⟨_, _, _, hc3⟩ := RBo_cells hB
  clear hB hC hY hv hf h1
  refine callsIn_of_wp Try.func56 rfl trivial ?_ rfl
  simp only [Try.ntmps56, List.size_toArray, List.length_cons, List.length_nil, Nat.reduceAdd, Nat.reduceSub, Array.replicate_succ, Array.replicate_zero, List.push_toArray, List.append_toArray, List.nil_append, List.cons_append]
  gi_wp2
  gi_loopw [5] (fun v wr => ∃ (tick : Int) (k : Nat), v = .int .i64 tick ∧ Aside0 (findOpen S (fun k => (g k).getD 0) k tick = some t) ∧ Aside0 (0 ≤ tick ∧ tick + k ≤ 1000000) ∧ Aside0 (Below W.heap.size W wr)) (fun v _ => (t - intOf v).toNat)
  case atStart => exact ⟨from_, K, rfl, HF, ⟨h0, HK.out⟩, ⟨Below.refl _ _⟩⟩
  case round =>
    obtain ⟨tick, k, rfl, hF, hT, hW⟩ := hrel
    have hk := wfI tick (by have := hT.out; omega)
    have HBW : Aside0 (RBo A S.length c s bR bM bF mb nm g from_ wr) := ⟨RBo_below HB.out hW.out⟩
    have hcall : ∀ W1, Below wr.heap.size wr W1 → CallsIn Fence.wide (n - 1) Try.prog 46 #[.agg #[.slice A S.length c, .int .i64 s], .int .i64 tick] W1 fun e w' => e = .returned (.int .i64 (capL S tick)) ∧ Below wr.heap.size wr w' := fun W1 h1 =>
      callsIn_wide.2 ((recovery_capacity.calls A c S s tick (capL S tick) W1 (Kd.C_below HC.out (below_step hW.out h1)) hc (cap_valid HV.out tick hT.out.1 s)).mono fun e w' ⟨he, hb⟩ => ⟨he, below_step h1 hb⟩)
    have hworld : ∀ W1, Below wr.heap.size wr W1 → W1.cell? ⟨bR, 0, none⟩ = some (.slice A S.length c) ∧ W1.cell? ⟨bR, 1, none⟩ = some (.int .i64 s) ∧ W1.cell? ⟨bM, 0, none⟩ = some (.map (some mb)) ∧ (Instr.lookup 72 (.map (some mb)) (.int .i64 tick) false).run Try.prog W1 = .ok (.int .i64 ((g tick).getD 0)) W1 := fun W1 h1 => by
      have hr := RBo_below HBW.out h1
      obtain ⟨q1, q2, q3, _⟩ := RBo_cells hr
      exact ⟨q1, q2, q3, MI_look hr.2.2.2 tick hk⟩
    have HCALL := Aside0.mk hcall
    have HWORLD := Aside0.mk hworld
    clear hcall hworld hk
    obtain ⟨p1, p2, p3, p4⟩ := HWORLD.out wr.drew (below_drew1 (Below.refl _ _))
    cases k with
    | zero =>
      have := hF.out
      cases this
    | succ k =>
      by_cases hroom : (g tick).getD 0 < capL S tick
      · have ht : tick = t := by
          have := hF.out
          unfold findOpen at this
          rw [if_pos hroom] at this
          exact Option.some.inj this
        have hd : decide ((g tick).getD 0 < capL S tick) = true := decide_eq_true hroom
        clear hroom
        subst ht
        have hc46 := HCALL.out wr.drew (below_drew1 (Below.refl _ _))
        gi_wp2
        gi_region_with (first
          | ((try refine ⟨trivial, ?_⟩); gi_at_call 46; refine hc46.mono ?_; rintro e w1 ⟨rfl, hb1⟩; obtain ⟨s1, s2, s3, s4⟩ := HWORLD.out w1 hb1; obtain ⟨fn, tmps, asg, bod, hy, hR⟩ := HY.out w1 (below_step hW.out hb1))
          | (refine hR.mono ?_; rintro e W' ⟨rfl, hp⟩)
          | gi_in)
        all_goals gi_wp2
        all_goals ((try simp only [Exit.inBlock, Exit.then]); refine bodyPost_ret (results_none rfl _ _ _) rfl ?_; exact ⟨⟨_, rfl⟩, hp⟩)
      · have hd : decide ((g tick).getD 0 < capL S tick) = false := decide_eq_false hroom
        have hnext : findOpen S (fun k => (g k).getD 0) k (tick + 1) = some t := by
          have := hF.out
          unfold findOpen at this
          rwa [if_neg hroom] at this
        clear hroom
        have hc46 := HCALL.out wr.drew (below_drew1 (Below.refl _ _))
        have hbd := findOpen_bd S _ k _ _ hnext
        have hbd1 : (t - (tick + 1)).toNat < (t - tick).toNat := by omega
        have HEND : Aside0 (∀ w1, Below wr.heap.size wr w1 → (∃ (tick_1 : Int) (k : Nat), Value.int IntKind.i64 (wrap64 (tick + 1)) = Value.int IntKind.i64 tick_1 ∧ Aside0 (findOpen S (fun k => (g k).getD 0) k tick_1 = some t) ∧ Aside0 (0 ≤ tick_1 ∧ tick_1 + (k : Int) ≤ 1000000) ∧ Aside0 (Below W.heap.size W w1)) ∧ (t - intOf (Value.int IntKind.i64 (wrap64 (tick + 1)))).toNat < (t - intOf (Value.int IntKind.i64 tick)).toNat) := ⟨by
          intro w1 hb1
          have hwr : wrap64 (tick + 1) = tick + 1 := by have := hT.out; unfold wrap64; omega
          rw [hwr]
          exact ⟨⟨tick + 1, k, rfl, ⟨hnext⟩, ⟨by have := hT.out; omega⟩, ⟨below_step hW.out hb1⟩⟩, hbd1⟩⟩
        clear hbd hbd1 hnext
        gi_wp2
        first | gi_region_with (first
          | ((try refine ⟨trivial, ?_⟩); gi_at_call 46; refine hc46.mono ?_; rintro e w1 ⟨rfl, hb1⟩; obtain ⟨s1, s2, s3, s4⟩ := HWORLD.out w1 hb1)
          | gi_in
          | (refine ⟨fun _ h => (by cases h), ?_⟩)) | fail
        all_goals gi_wp2
        all_goals exact HEND.out _ hb1
end Go.Proofs.Ytcldldmedphcfaa.C
