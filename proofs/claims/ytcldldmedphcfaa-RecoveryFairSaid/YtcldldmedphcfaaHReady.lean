import Derived.Test.YtcldldmedphcfaaHMaps
import Derived.Test.YtcldldmedphcfaaCWithin
/- The contract of recovery.Ready; by hand: it fills a map. Condition: fewer than 1000 attempts, none with a caller that is no int. -/
namespace Go.Proofs.Ytcldldmedphcfaa.C
open Go.RowKit Go.Proofs.YtcldldmedphcfaaW.PrintWords Go.Proofs.YtcldldmedphcfaaW.PrintLast Go.Proofs.YtcldldmedphcfaaW.PrintMore
set_option linter.unusedVariables false
def okAtt (a : S60) : Bool := decide (0 ≤ a.f0) && decide (a.f0 ≤ 99) && (decide (0 ≤ a.f1) && decide (a.f1 ≤ 1000))
/-- The callers of attempts, as keys. -/
def keysOf (l : List S60) : List Lit := l.map fun a => Lit.int .i64 a.f0
/-- The callers of attempts, each once. -/
def nubOf (l : List S60) : List Lit := (keysOf l).foldl Maps.addKey []
def readyB (l : List S60) : Bool := l.all okAtt && (decide (l.length ≤ 40) && decide ((nubOf l).length = l.length))
def recovery_Ready.f (l : List S60) : Option Bool := if l.length < 1000 then some (readyB l) else none
def SR (l : List S60) : DataW Unit := Maps.setOf (.lit (.bool true)) (keysOf l)
theorem SR_snoc (l : List S60) (k : Nat) (h : k < l.length) : SR (l.take (k + 1)) = (SR (l.take k)).put (.int .i64 (rd_T60 l k).f0) (.lit (.bool true)) := by
  unfold SR
  rw [← Maps.setOf_snoc]
  congr 1
  unfold keysOf
  rw [List.take_succ_eq_append_getElem h, List.map_append]
  simp [rd_T60, List.getD, h]
theorem within_true (x a b : Int) (h : a ≤ x ∧ x ≤ b) : recovery_isWithin.f x a b = some true := by
  unfold recovery_isWithin.f
  rw [if_pos h.1, decide_eq_true h.2]
theorem within_false (x a b : Int) (h : ¬ (a ≤ x ∧ x ≤ b)) : recovery_isWithin.f x a b = some false := by
  unfold recovery_isWithin.f
  by_cases c : a ≤ x
  · rw [if_pos c, decide_eq_false (fun q => h ⟨c, q⟩)]
  · rw [if_neg c]
theorem all_split (l : List S60) (k : Nat) (h : k < l.length) (hp : (l.take k).all okAtt = true) : l.all okAtt = (okAtt (rd_T60 l k) && (l.drop (k + 1)).all okAtt) := by
  have e : l.drop k = rd_T60 l k :: l.drop (k + 1) := by
    rw [List.drop_eq_getElem_cons h]
    simp [rd_T60, List.getD, h]
  calc l.all okAtt = (l.take k ++ l.drop k).all okAtt := by rw [List.take_append_drop]
    _ = _ := by rw [List.all_append, hp, e, List.all_cons, Bool.true_and]
theorem drawn_heap {w w' : World} (h : Drawn0 w w') : w'.heap = w.heap := by
  obtain ⟨n, rfl⟩ := h
  rfl
theorem keyLits (l : List S60) : ∀ x ∈ keysOf l, WideAt.IsKeyLit x := by
  intro x hx
  simp only [keysOf, List.mem_map] at hx
  obtain ⟨a, _, rfl⟩ := hx
  trivial
theorem SR_size (l : List S60) : Maps.size (SR l) = (nubOf l).length := Maps.size_setOf _ _ (keyLits l)
set_option maxRecDepth 100000 in
set_option maxHeartbeats 4000000 in
theorem recovery_Ready.calls (A0 : Option Addr) (c0 : Nat) (l0 : List S60) (r : Bool) (w : World) (hr0 : Kd.C k60 w A0 l0.length l0) (hc0 : l0.length ≤ c0) (h : recovery_Ready.f l0 = some r) :
    Calls Try.prog 30 #[.slice A0 l0.length c0] w fun e w' => e = .returned (.bool r) ∧ Below w.heap.size w w' := by
  unfold recovery_Ready.f at h
  by_cases hlen : l0.length < 1000
  · rw [if_pos hlen] at h
    have HR := Aside0.mk (Option.some.inj h)
    have HC := Aside0.mk hr0
    clear h hr0
    have hmm := @run_makeMap Try.prog
    go_enter Try.func30, Try.ntmps30
    go_wp2
    go_loopw [9] (fun i wr => ∃ k : Nat, Aside0 (k ≤ l0.length) ∧ i = .int .i64 k ∧ Aside0 (wr.ownsMap Try.prog 3 (plainElem Try.prog 4) w.heap.size k (SR (l0.take k))) ∧ Aside0 (Below w.heap.size w wr) ∧ Aside0 ((l0.take k).all okAtt = true))
      (fun i _ => l0.length - (intOf i).toNat)
    case atStart => exact ⟨0, ⟨Nat.zero_le _⟩, rfl, ⟨World.ownsMap_made _ _ _ _⟩, ⟨(Below.refl _ _).alloc (Nat.le_refl _) _⟩, ⟨rfl⟩⟩
    case round =>
      obtain ⟨k, hk, rfl, hown, hnx, hall⟩ := hrel
      by_cases hlt : k < l0.length
      · obtain ⟨ad, hA, hx0, hx1, hx2⟩ := at_T60 (Kd.C_below HC.out hnx.out) (k : Int) (by omega) (by omega)
        subst hA
        have e1 : ((k : Int)).toNat = k := by omega
        rw [e1] at hx0 hx1 hx2
        have HS := Aside0.mk (all_split l0 k hlt hall.out)
        have hc3 : decide ((k : Int) < l0.length) = true := decide_eq_true (by omega)
        have HB := Aside0.mk hnx.out
        by_cases c1 : 0 ≤ (rd_T60 l0 k).f0 ∧ (rd_T60 l0 k).f0 ≤ 99
        · have H1 := within_true (rd_T60 l0 k).f0 0 99 c1
          by_cases c2 : 0 ≤ (rd_T60 l0 k).f1 ∧ (rd_T60 l0 k).f1 ≤ 1000
          · have H2 := within_true (rd_T60 l0 k).f1 0 1000 c2
            have hk0 : keyOf Try.prog 3 (.int .i64 (rd_T60 l0 k).f0) = some (.int .i64 (rd_T60 l0 k).f0) := keyI _ (wfI _ (by omega))
            have HN : Aside0 ((l0.take (k + 1)).all okAtt = true) := ⟨by
              have : okAtt (rd_T60 l0 k) = true := by
                unfold okAtt
                simp only [Bool.and_eq_true, decide_eq_true_eq]
                omega
              rw [List.take_succ_eq_append_getElem hlt, List.all_append, hall.out]
              simpa [rd_T60, List.getD, hlt] using this⟩
            go_wp2_with (first
              | (go_at_call 43; (with_reducible refine (recovery_isWithin.calls _ _ _ _ _ H1).mono ?_); rintro e w1 ⟨rfl, ⟨⟨n1, rfl⟩⟩⟩; clear H1)
              | (go_at_call 43; (with_reducible refine (recovery_isWithin.calls _ _ _ _ _ H2).mono ?_); rintro e w2 ⟨rfl, ⟨⟨n2, rfl⟩⟩⟩; clear H2)
              | (at_mapUpdate; (refine wpList_mapUpdate_own _ rfl _ _ _ 83 rfl 3 4 law3 Try.underlying83 _ w.heap.size k _ rfl (OM_below hown.out (by repeat (first | exact Below.refl _ _ | apply pw_below_drewN | apply below_alloc))) (by unfold maxLen; omega) _ _ _ rfl rfl hk0 (.lit (.bool true)) [] rfl ?_); intro w3 hown1 hgrow1)
              | go_in)
            go_roundw
            case rel => exact ⟨k + 1, ⟨by omega⟩, by go_num, ⟨by rw [SR_snoc l0 k hlt]; exact hown1⟩, ⟨Below.grown (by repeat (first | exact HB.out | apply pw_below_drewN | apply below_alloc)) hgrow1 (by have := HB.out.size; simp; omega) (fun j hj => by cases hj; exact Nat.le_refl _)⟩, HN⟩
            case measure => simp [intOf]; omega
          · have H2 := within_false (rd_T60 l0 k).f1 0 1000 c2
            have HE : r = false := by
              rw [← HR.out]
              unfold readyB
              rw [HS.out]
              have : okAtt (rd_T60 l0 k) = false := by
                unfold okAtt
                simp only [Bool.and_eq_false_iff, decide_eq_false_iff_not]
                omega
              rw [this]
              rfl
            subst HE
            go_wp2_with (first
              | (go_at_call 43; (with_reducible refine (recovery_isWithin.calls _ _ _ _ _ H1).mono ?_); rintro e w1 ⟨rfl, ⟨⟨n1, rfl⟩⟩⟩; clear H1)
              | (go_at_call 43; (with_reducible refine (recovery_isWithin.calls _ _ _ _ _ H2).mono ?_); rintro e w2 ⟨rfl, ⟨⟨n2, rfl⟩⟩⟩; clear H2)
              | go_in)
            go_ret
            exact ⟨rfl, by repeat (first | exact HB.out | apply pw_below_drewN | apply below_alloc)⟩
        · have H1 := within_false (rd_T60 l0 k).f0 0 99 c1
          have HE : r = false := by
            rw [← HR.out]
            unfold readyB
            rw [HS.out]
            have : okAtt (rd_T60 l0 k) = false := by
              unfold okAtt
              simp only [Bool.and_eq_false_iff, decide_eq_false_iff_not]
              omega
            rw [this]
            rfl
          subst HE
          go_wp2_with (first | (go_at_call 43; (with_reducible refine (recovery_isWithin.calls _ _ _ _ _ H1).mono ?_); rintro e w1 ⟨rfl, ⟨⟨n1, rfl⟩⟩⟩) | go_in)
          go_ret
          exact ⟨rfl, by repeat (first | exact HB.out | apply pw_below_drewN | apply below_alloc)⟩
      · have ek : k = l0.length := by have := hk.out; omega
        subst ek
        have hc3 : decide ((l0.length : Int) < l0.length) = false := decide_eq_false (by omega)
        have HB := Aside0.mk hnx.out
        have hl := hown.out.len Try.underlying83 3
        rw [List.take_length] at hl
        rw [SR_size] at hl
        have hA2 := hall.out
        rw [List.take_length] at hA2
        have HE : r = (decide (l0.length ≤ 40) && decide ((nubOf l0).length = l0.length)) := by
          rw [← HR.out]
          unfold readyB
          rw [hA2]
          rfl
        by_cases c1 : l0.length ≤ 40
        · have d1 : decide ((l0.length : Int) ≤ 40) = true := decide_eq_true (by omega)
          have HE2 : r = ((((nubOf l0).length : Int)) == (l0.length : Int)) := by
            rw [HE, decide_eq_true c1, Bool.true_and]
            by_cases q : (nubOf l0).length = l0.length
            · rw [decide_eq_true q, q]
              exact (beq_self_eq_true _).symm
            · rw [decide_eq_false q]
              exact (beq_eq_false_iff_ne.mpr (by omega)).symm
          clear HE HR hA2
          go_wp2
          go_ret
          exact ⟨by rw [HE2]; rfl, HB.out⟩
        · have d1 : decide ((l0.length : Int) ≤ 40) = false := decide_eq_false (by omega)
          have HE2 : r = false := by rw [HE, decide_eq_false c1, Bool.false_and]
          clear HE HR hA2
          go_wp2
          go_ret
          exact ⟨by rw [HE2]; rfl, HB.out⟩
  · rw [if_neg hlen] at h
    cases h
end Go.Proofs.Ytcldldmedphcfaa.C
