import Derived.Test.YtcldldmedphcfaaHLoads
/- The contract of recovery.Load. Conditions: fewer than 1000 attempts; a tick that is an int. -/
namespace Go.Proofs.Ytcldldmedphcfaa.C
open Go.RowKit Go.Proofs.YtcldldmedphcfaaW.PrintWords Go.Proofs.YtcldldmedphcfaaW.PrintLast Go.Proofs.YtcldldmedphcfaaW.PrintMore
set_option linter.unusedVariables false
set_option linter.unusedSimpArgs false
theorem plan_cases {s : List S67} {sig : Int} {l : List S60} {r : List S39 × Int} (h : recovery_Plan.f s sig l = some r) : (∃ p, r = (p, 0)) ∨ r = ([], 340) := by
  unfold recovery_Plan.f at h
  by_cases h1 : l.length < 1000
  · rw [if_pos h1] at h
    by_cases h2 : validB s sig = true
    · rw [if_pos h2] at h
      by_cases h3 : readyB l = true
      · rw [if_pos h3] at h
        obtain ⟨q, hq, e⟩ := Option.map_eq_some_iff.1 h
        exact Or.inl ⟨q, e.symm⟩
      · rw [if_neg h3] at h
        exact Or.inr (Option.some.inj h).symm
    · rw [if_neg h2] at h
      exact Or.inr (Option.some.inj h).symm
  · rw [if_neg h1] at h
    cases h
set_option maxHeartbeats 8000000 in
set_option maxRecDepth 100000 in
theorem loads49_bad (A0_0 : Option Addr) (c0_0 : Nat) (l0_0 : List S67) (a0_1 : Int) (A1 : Option Addr) (c1 : Nat) (l1 : List S60) (w : World) (hr0_0 : Kd.C k67 w A0_0 l0_0.length l0_0) (hc0_0 : l0_0.length ≤ c0_0) (hr1 : Kd.C k60 w A1 l1.length l1) (hc1 : l1.length ≤ c1) (h : recovery_Plan.f l0_0 a0_1 l1 = some ([], 340)) :
    Calls Try.prog 49 #[.agg #[.slice A0_0 l0_0.length c0_0, .int .i64 a0_1], .slice A1 l1.length c1] w fun e w' => e = .returned (.tuple #[.map none, .bool false]) ∧ Below w.heap.size w w' := by
  have HH := Aside0.mk h
  have HC0 := Aside0.mk hr0_0
  have HC1 := Aside0.mk hr1
  have HL0 := Aside0.mk hc0_0
  have HL1 := Aside0.mk hc1
  obtain ⟨w0, hw0⟩ : ∃ w0, w.alloc (.cells #[.slice A0_0 l0_0.length c0_0, .int .i64 a0_1] 26) = w0 := ⟨_, rfl⟩
  have hB0 : Below w.heap.size w w0 := by rw [← hw0]; exact below_alloc (Below.refl _ _) _
  have hblk0 : w0.heap[w.heap.size]? = some (.cells #[.slice A0_0 l0_0.length c0_0, .int .i64 a0_1] 26 (0, 0)) := by rw [← hw0]; exact heap_alloc_new _ _
  have c00 : w0.cell? ⟨w.heap.size, 0, none⟩ = some (.slice A0_0 l0_0.length c0_0) := (blk_cell hblk0 0).trans rfl
  have c01 : w0.cell? ⟨w.heap.size, 1, none⟩ = some (.int .i64 a0_1) := (blk_cell hblk0 1).trans rfl
  have HB0 := Aside0.mk hB0
  clear h hr0_0 hr1 hc0_0 hc1 hB0 hblk0
  go_enter Try.func49, Try.ntmps49
  go_wp2_with (first
    | (go_at_call 16; (refine (recovery_Plan.calls A0_0 c0_0 l0_0 a0_1 A1 c1 l1 [] 340 w0 (Kd.C_below HC0.out HB0.out) HL0.out (Kd.C_below HC1.out HB0.out) HL1.out HH.out).mono ?_); rintro e w1 ⟨v6, rfl, ho1, hb1⟩; have HB1 := Aside0.mk hb1; clear ho1 hb1)
    | go_in)
  go_ret2
  exact ⟨rfl, below_step HB0.out HB1.out⟩
def recovery_Load.f (s : List S67) (sig : Int) (l : List S60) (t : Int) : Option (Int × Int) :=
  (recovery_Plan.f s sig l).bind fun bt => if bt.2 = 0 then (if t < 0 then some (0, 340) else if t ≤ 9223372036854775807 then some (loadFn (sortAtts l) bt.1 t, 0) else none) else some (0, 340)
theorem LN.done {o : List S60} {p : List S39} {g : Int → Option Int} (h : LN o p o.length g) (t : Int) : (g t).getD 0 = loadFn o p t := by
  have := h.sum t
  rw [List.drop_eq_nil_of_le (Nat.le_refl _)] at this
  simpa [loadFn] using this
set_option maxHeartbeats 8000000 in
set_option maxRecDepth 100000 in
theorem recovery_Load.calls (A0_0 : Option Addr) (c0_0 : Nat) (l0_0 : List S67) (a0_1 : Int) (A1 : Option Addr) (c1 : Nat) (l1 : List S60) (a2 : Int) (r1 : Int) (r2 : Int) (w : World) (hr0_0 : Kd.C k67 w A0_0 l0_0.length l0_0) (hc0_0 : l0_0.length ≤ c0_0) (hr1 : Kd.C k60 w A1 l1.length l1) (hc1 : l1.length ≤ c1) (h : recovery_Load.f l0_0 a0_1 l1 a2 = some (r1, r2)) :
    Calls Try.prog 32 #[.agg #[.slice A0_0 l0_0.length c0_0, .int .i64 a0_1], .slice A1 l1.length c1, .int .i64 a2] w fun e w' => e = .returned (.tuple #[.int .i64 r1, .int .i64 r2]) ∧ Below w.heap.size w w' := by
  unfold recovery_Load.f at h
  obtain ⟨bt, hp, h⟩ := Option.bind_eq_some_iff.1 h
  have HC0 := Aside0.mk hr0_0
  have HC1 := Aside0.mk hr1
  have HL0 := Aside0.mk hc0_0
  have HL1 := Aside0.mk hc1
  obtain ⟨w0, hw0⟩ : ∃ w0, w.alloc (.cells #[.slice A0_0 l0_0.length c0_0, .int .i64 a0_1] 26) = w0 := ⟨_, rfl⟩
  have hB0 : Below w.heap.size w w0 := by rw [← hw0]; exact below_alloc (Below.refl _ _) _
  have hblk0 : w0.heap[w.heap.size]? = some (.cells #[.slice A0_0 l0_0.length c0_0, .int .i64 a0_1] 26 (0, 0)) := by rw [← hw0]; exact heap_alloc_new _ _
  have c00 : w0.cell? ⟨w.heap.size, 0, none⟩ = some (.slice A0_0 l0_0.length c0_0) := (blk_cell hblk0 0).trans rfl
  have c01 : w0.cell? ⟨w.heap.size, 1, none⟩ = some (.int .i64 a0_1) := (blk_cell hblk0 1).trans rfl
  have HB0 := Aside0.mk hB0
  clear hr0_0 hr1 hc0_0 hc1 hB0 hblk0
  rcases plan_cases hp with ⟨p, rfl⟩ | rfl
  · rw [if_pos rfl] at h
    have HP := Aside0.mk hp
    clear hp
    by_cases ht : a2 < 0
    · rw [if_pos ht] at h
      obtain ⟨e1, e2⟩ := Prod.mk.inj (Option.some.inj h)
      subst e1 e2
      have hd : decide (a2 < 0) = true := decide_eq_true ht
      clear h ht
      go_enter Try.func32, Try.ntmps32
      go_wp2_with (first
        | (go_at_call 49; (refine (loads49 A0_0 c0_0 l0_0 a0_1 A1 c1 l1 p w0 (Kd.C_below HC0.out HB0.out) HL0.out (Kd.C_below HC1.out HB0.out) HL1.out HP.out).mono ?_); rintro e w1 ⟨mb, g, rfl, hmb, hmi, hln, hb1⟩; have HMI := Aside0.mk hmi; have HLN := Aside0.mk hln; have HB1 := Aside0.mk hb1; clear hmi hln hb1)
        | go_in)
      go_ret2
      exact ⟨rfl, below_step HB0.out HB1.out⟩
    · rw [if_neg ht] at h
      by_cases ht2 : a2 ≤ 9223372036854775807
      · rw [if_pos ht2] at h
        obtain ⟨e1, e2⟩ := Prod.mk.inj (Option.some.inj h)
        have HE := Aside0.mk e1
        subst e2
        have hd : decide (a2 < 0) = false := decide_eq_false ht
        have hwt := wfI a2 (by omega)
        clear h ht ht2 e1
        go_enter Try.func32, Try.ntmps32
        go_wp2_with (first
          | (go_at_call 49; (refine (loads49 A0_0 c0_0 l0_0 a0_1 A1 c1 l1 p w0 (Kd.C_below HC0.out HB0.out) HL0.out (Kd.C_below HC1.out HB0.out) HL1.out HP.out).mono ?_); rintro e w1 ⟨mb, g, rfl, hmb, hmi, hln, hb1⟩; have hlk := MI_look hmi a2 hwt; rw [hln.done a2] at hlk; have HMI := Aside0.mk hmi; have HLN := Aside0.mk hln; have HB1 := Aside0.mk hb1; clear hmi hln hb1)
          | go_in)
        go_ret2
        exact ⟨by rw [← HE.out]; rfl, below_step HB0.out HB1.out⟩
      · rw [if_neg ht2] at h
        cases h
  · rw [if_neg (by simp)] at h
    obtain ⟨e1, e2⟩ := Prod.mk.inj (Option.some.inj h)
    subst e1 e2
    have HP := Aside0.mk hp
    clear h hp
    go_enter Try.func32, Try.ntmps32
    go_wp2_with (first
      | (go_at_call 49; (refine (loads49_bad A0_0 c0_0 l0_0 a0_1 A1 c1 l1 w0 (Kd.C_below HC0.out HB0.out) HL0.out (Kd.C_below HC1.out HB0.out) HL1.out HP.out).mono ?_); rintro e w1 ⟨rfl, hb1⟩; have HB1 := Aside0.mk hb1; clear hb1)
      | go_in)
    go_ret2
    exact ⟨rfl, below_step HB0.out HB1.out⟩
end Go.Proofs.Ytcldldmedphcfaa.C
