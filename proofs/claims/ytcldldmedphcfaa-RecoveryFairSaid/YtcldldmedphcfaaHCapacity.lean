import Derived.Test.YtcldldmedphcfaaCKinds
import Derived.BigRegion
import Derived.Deep.RegionWith
import Derived.Deep.QuietTactic
import Derived.BigQuiet
/- The contract of recovery.capacity: the capacity of the last step that begins at a tick or before; by hand: the closure, slices.IndexFunc at it, and capacity itself. Condition: the first step does not begin after the tick. -/
namespace Go.Proofs.Ytcldldmedphcfaa.C
open Go.RowKit Go.Proofs.YtcldldmedphcfaaW.PrintWords Go.Proofs.YtcldldmedphcfaaW.PrintLast Go.Proofs.YtcldldmedphcfaaW.PrintMore
set_option linter.unusedVariables false
/-- How many of the first steps begin at a tick or before. -/
def fa (tick : Int) : List S67 → Int
  | [] => 0
  | x :: l => if tick < x.f0 then 0 else 1 + fa tick l
theorem fa_bd (tick : Int) (l : List S67) : 0 ≤ fa tick l ∧ fa tick l ≤ l.length := by
  induction l with
  | nil => exact ⟨Int.le_refl _, Int.le_refl _⟩
  | cons x l ih =>
    simp only [fa, List.length_cons]
    split <;> omega
theorem drop_rd67 (l : List S67) (i : Int) (h0 : 0 ≤ i) (h : i < l.length) : l.drop i.toNat = rd_T67 l i :: l.drop (i + 1).toNat := by
  obtain ⟨k, rfl⟩ : ∃ k : Nat, i = k := ⟨i.toNat, by omega⟩
  have hk : k < l.length := by omega
  rw [show ((k : Int) + 1).toNat = k + 1 by omega, show (k : Int).toNat = k by omega, List.drop_eq_getElem_cons hk]
  unfold rd_T67
  rw [show (k : Int).toNat = k by omega, show l.getD k z67 = l[k] by simp [List.getD, hk]]
def recovery_capacity.f (l0_0 : List S67) (_ : Int) (a1 : Int) : Option Int := if 0 < fa a1 l0_0 then some (rd_T67 l0_0 (fa a1 l0_0 - 1)).f1 else none
set_option maxHeartbeats 4000000 in
theorem closure61 (g : Nat) (x y tick : Int) (w : World) (hb : w.heap[g]? = some (.cells #[.int .i64 tick] 3 (0, 0))) :
    Calls Try.prog 61 #[.agg #[.int .i64 x, .int .i64 y], .pointer (some ⟨g, 0, none⟩)] w fun e w' => e = .returned (.bool (decide (tick < x))) ∧ Below w.heap.size w w' := by
  have hz0 : w.cell? ⟨g, 0, none⟩ = some (.int .i64 tick) := (blk_cell hb 0).trans rfl
  have hy : ∀ o, (w.alloc o).cell? ⟨g, 0, none⟩ = some (.int .i64 tick) := fun o => (blk_cell (blk_alloc hb o) 0).trans rfl
  clear hb
  go_enter Try.func61, Try.ntmps61
  go_wp2
  go_ret
  exact ⟨rfl, by repeat (first | exact Below.refl _ _ | apply below_drew1 | apply below_alloc)⟩
set_option maxHeartbeats 4000000 in
theorem indexFunc60 (g : Nat) (A : Option Addr) (c : Nat) (l : List S67) (tick : Int) (w : World) (hb : w.heap[g]? = some (.cells #[.int .i64 tick] 3 (0, 0))) (hr : Kd.C k67 w A l.length l) (hc : l.length ≤ c) :
    Calls Try.prog 60 #[.slice A l.length c, .func (.func 61) #[] #[.pointer (some ⟨g, 0, none⟩)]] w fun e w' => e = .returned (.int .i64 (if fa tick l < l.length then fa tick l else -1)) ∧ Below w.heap.size w w' := by
  have HR := Aside0.mk hr
  have HBK := Aside0.mk hb
  have hbd := fa_bd tick l
  have hm : (l.length : Int) ≤ 9223372036854775807 := by have := hr.2.1; omega
  obtain ⟨res, hres⟩ : ∃ res, (if fa tick l < l.length then fa tick l else -1) = res := ⟨_, rfl⟩
  rw [hres]
  have HRES := Aside0.mk hres
  clear hr hb hc hres
  go_enter Try.func60, Try.ntmps60
  go_wp2
  go_loopw [8] (fun v wr => ∃ i : Int, v = .int .i64 i ∧ Aside0 (0 ≤ i ∧ i ≤ l.length) ∧ Aside0 (fa tick l = i + fa tick (l.drop i.toNat)) ∧ Aside0 (Below w.heap.size w wr)) (fun v _ => l.length - (intOf v).toNat)
  case atStart => exact ⟨0, rfl, ⟨by omega, by omega⟩, ⟨by rw [Int.zero_add]; rfl⟩, ⟨by repeat (first | exact Below.refl _ _ | apply below_drew1)⟩⟩
  case round =>
    obtain ⟨i, rfl, HI, HF, HB⟩ := hrel
    by_cases hlt : i < l.length
    · have p : 0 ≤ i := HI.out.1
      have hcC := Kd.C_below HR.out HB.out
      obtain ⟨ad, rfl, hx0, hx1⟩ := at_T67 hcC i p hlt
      clear hcC
      have hdr := drop_rd67 l i p hlt
      have hF := HF.out
      rw [hdr] at hF
      simp only [fa] at hF
      by_cases q : tick < (rd_T67 l i).f0
      · rw [if_pos q, Int.add_zero] at hF
        have HQ := Aside0.mk (decide_eq_true q)
        have hE : res = i := by
          have h2 := HRES.out
          rw [hF, if_pos hlt] at h2
          exact h2.symm
        subst hE
        clear q hF hdr HF
        go_wp2_with (go_at_call 61; (with_reducible refine (closure61 g _ _ tick _ (blk_below HBK.out HB.out)).mono ?_); rw [HQ.out]; rintro e w1 ⟨rfl, hb1⟩; have HB1 := Aside0.mk (below_step HB.out hb1); clear hb1)
        all_goals (go_ret; exact ⟨rfl, HB1.out⟩)
      · rw [if_neg q] at hF
        have HQ := Aside0.mk (decide_eq_false q)
        have HE := Aside0.mk hF
        clear q hF hdr HF
        go_wp2_with (go_at_call 61; (with_reducible refine (closure61 g _ _ tick _ (blk_below HBK.out HB.out)).mono ?_); rw [HQ.out]; rintro e w1 ⟨rfl, hb1⟩; have HB1 := Aside0.mk (below_step HB.out hb1); clear hb1)
        all_goals
          go_roundw
          case rel => exact ⟨i + 1, rfl, ⟨by omega, by omega⟩, ⟨by rw [HE.out]; omega⟩, HB1⟩
          case measure => simp [intOf]; omega
    · have e : i = l.length := by have := HI.out; omega
      have hE : res = -1 := by
        have h2 := HRES.out
        have h3 := HF.out
        rw [e, List.drop_eq_nil_of_le (by omega)] at h3
        simp only [fa] at h3
        rw [if_neg (by omega)] at h2
        exact h2.symm
      subst hE
      clear e
      go_wp2
      go_ret
      exact ⟨rfl, HB.out⟩
/-- What capacity keeps while it goes on: its two boxed variables, and what was there before. -/
def RBc (A : Option Addr) (n c : Nat) (s t : Int) (w W : World) : Prop :=
  W.heap[w.heap.size]? = some (.cells #[.slice A n c, .int .i64 s] 26 (0, 0)) ∧ W.heap[w.heap.size + 1]? = some (.cells #[.int .i64 t] 3 (0, 0)) ∧ Below w.heap.size w W
theorem rbc_start (A : Option Addr) (n c : Nat) (s t : Int) (w : World) : RBc A n c s t w ((w.alloc (.cells #[.slice A n c, .int .i64 s] 26)).alloc (.cells #[.int .i64 t] 3)) := by
  refine ⟨blk_alloc (heap_alloc_new _ _) _, ?_, ((Below.refl _ w).alloc (Nat.le_refl _) _).alloc (by simp) _⟩
  have := heap_alloc_new (w.alloc (.cells #[.slice A n c, .int .i64 s] 26)) (.cells #[.int .i64 t] 3)
  rwa [World.size_alloc] at this
set_option maxHeartbeats 8000000 in
theorem recovery_capacity.calls (A0_0 : Option Addr) (c0_0 : Nat) (l0_0 : List S67) (a0_1 a1 r : Int) (w : World) (hr0_0 : Kd.C k67 w A0_0 l0_0.length l0_0) (hc0_0 : l0_0.length ≤ c0_0) (h : recovery_capacity.f l0_0 a0_1 a1 = some r) :
    Calls Try.prog 46 #[.agg #[.slice A0_0 l0_0.length c0_0, .int .i64 a0_1], .int .i64 a1] w fun e w' => e = .returned (.int .i64 r) ∧ Below w.heap.size w w' := by
  unfold recovery_capacity.f at h
  have hbd := fa_bd a1 l0_0
  have hm : (l0_0.length : Int) ≤ 9223372036854775807 := by have := hr0_0.2.1; omega
  by_cases hp : 0 < fa a1 l0_0
  · rw [if_pos hp] at h
    have hR := Option.some.inj h
    clear h
    have HR := Aside0.mk hR
    have HCR := Aside0.mk hr0_0
    have HST := Aside0.mk (rbc_start A0_0 l0_0.length c0_0 a0_1 a1 w)
    have hcall : ∀ W, RBc A0_0 l0_0.length c0_0 a0_1 a1 w W → Calls Try.prog 60 #[.slice A0_0 l0_0.length c0_0, .func (.func 61) #[] #[.pointer (some ⟨w.heap.size + 1, 0, none⟩)]] W fun e w' => e = .returned (.int .i64 (if fa a1 l0_0 < l0_0.length then fa a1 l0_0 else -1)) ∧ RBc A0_0 l0_0.length c0_0 a0_1 a1 w w' := fun W hW =>
      (indexFunc60 (w.heap.size + 1) A0_0 c0_0 l0_0 a1 W hW.2.1 (Kd.C_below hr0_0 hW.2.2) hc0_0).mono fun e w' ⟨he, hb⟩ => ⟨he, blk_below hW.1 hb, blk_below hW.2.1 hb, below_step hW.2.2 hb⟩
    obtain ⟨ad, rfl, _, _⟩ := at_T67 hr0_0 (fa a1 l0_0 - 1) (by omega) (by omega)
    have hcells : ∀ W, RBc (some ad) l0_0.length c0_0 a0_1 a1 w W → W.cell? ⟨w.heap.size, 0, none⟩ = some (.slice (some ad) l0_0.length c0_0) ∧ W.cell? ⟨(ad.add ((fa a1 l0_0 - 1).toNat * 2)).block, (ad.add ((fa a1 l0_0 - 1).toNat * 2)).off + 1, none⟩ = some (.int .i64 r) := by
      intro W hW
      obtain ⟨ad', e, hx0, hx1⟩ := at_T67 (Kd.C_below HCR.out hW.2.2) (fa a1 l0_0 - 1) (by omega) (by omega)
      obtain rfl := Option.some.inj e
      exact ⟨(blk_cell hW.1 0).trans rfl, by rw [← HR.out]; exact hx1⟩
    have HCALL := Aside0.mk hcall
    have HCE := Aside0.mk hcells
    clear hcall hcells hr0_0 hR
    obtain ⟨n, hn⟩ : ∃ n, fa a1 l0_0 = n := ⟨_, rfl⟩
    rw [hn] at HCALL HCE hbd hp
    by_cases c : n < l0_0.length
    · rw [if_pos c] at HCALL
      have c1 : decide (n < 0) = false := decide_eq_false (by omega)
      clear hn
      rw [show (n - 1).toNat = n.toNat - 1 by omega] at HCE
      go_enter Try.func46, Try.ntmps46
      go_wp2_with (go_at_call 60; (with_reducible refine (HCALL.out _ HST.out).mono ?_); rintro e w1 ⟨rfl, hb⟩; obtain ⟨hz, hx⟩ := HCE.out _ hb; have HB := Aside0.mk hb; clear hb)
      all_goals (go_ret; exact ⟨rfl, HB.out.2.2⟩)
    · rw [if_neg c] at HCALL
      have e : n = l0_0.length := by omega
      clear hn
      subst e
      rw [show ((l0_0.length : Int) - 1).toNat = l0_0.length - 1 by omega] at HCE
      go_enter Try.func46, Try.ntmps46
      go_wp2_with (go_at_call 60; (with_reducible refine (HCALL.out _ HST.out).mono ?_); rintro e w1 ⟨rfl, hb⟩; obtain ⟨hz, hx⟩ := HCE.out _ hb; have HB := Aside0.mk hb; clear hb)
      all_goals (go_ret; exact ⟨rfl, HB.out.2.2⟩)
  · rw [if_neg hp] at h
    cases h
end Go.Proofs.Ytcldldmedphcfaa.C
