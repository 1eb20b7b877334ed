import Derived.Test.YtcldldmedphcfaaCKinds
import Derived.Lib.SliceRun
/- The contract of recovery.ordered: the attempts in their order, in a row of their own; by hand: slices.Clone, slices.SortFunc by the shelf's contract. Condition: fewer than 1000 attempts. -/
namespace Go.Proofs.Ytcldldmedphcfaa.C
open Go.RowKit Go.Proofs.YtcldldmedphcfaaW.PrintWords Go.Proofs.YtcldldmedphcfaaW.PrintLast Go.Proofs.YtcldldmedphcfaaW.PrintMore
set_option linter.unusedVariables false
set_option maxHeartbeats 4000000 in
set_option maxRecDepth 100000 in
theorem clone62.calls (A : Option Addr) (c : Nat) (l : List S60) (w : World) (hr : Kd.C k60 w A l.length l) (hl : l.length < 1000) :
    Calls Try.prog 62 #[.slice A l.length c] w fun e w' => ∃ v : Value, e = .returned v ∧ Kd.R k60 60 w' w.heap.size (fun _ => True) v l ∧ Below w.heap.size w w' := by
  have HC := Aside0.mk hr
  have hq := Lib.run_eql_slice_nil w 28 60 A l.length c 0 0 Try.underlying28
  cases A with
  | none =>
    have hn : l = [] := by
      obtain ⟨_, _, h3⟩ := hr
      apply List.eq_nil_of_length_eq_zero
      apply Nat.eq_zero_of_not_pos
      intro hp
      obtain ⟨ad, h, _⟩ := h3 hp
      cases h
    subst hn
    clear hr hq
    have hq := Lib.run_eql_slice_nil (P := Try.prog) w 28 60 none 0 c 0 0 Try.underlying28
    go_enter Try.func62, Try.ntmps62
    go_wp2
    go_ret
    exact ⟨_, rfl, Kd.R_nil _ _ _ _ _, Below.refl _ _⟩
  | some ad =>
    clear hr
    go_enter Try.func62, Try.ntmps62
    go_wp2_with (first
      | ((with_reducible refine gate_dst (N := 5) rfl ?_); refine Kd.R_lit k60 _ 60 ?hg (N := 5) ?hd (xs := ([] : List S60)) (inner := []) (ok := fun _ => True) (okp := fun _ => True) ?hr ?hp (fun _ hk => hk) trivial (Below.refl _ _) (Nat.le_refl _) (by simp) ?_; (case hd => rfl); (case hg => rfl); (case hr => first | (go_simp; done) | (go_simp; rfl)); (case hp => exact (Reps.none _ _)); intro v5 w1 ho5 hb5 hg5 hn5; have HO5 := Aside0.mk ho5; have HB5 := Aside0.mk hb5; clear ho5 hb5 hg5 hn5)
      | ((with_reducible refine gate_builtin (b := .append) (xs := #[.tmp 5, .tmp 6]) rfl ?_); at_builtin; refine Kd.R_append_rows k60 (w0 := w) w.heap.size rfl (.tmp 5) (.tmp 6) 28 60 (.agg #[(.int .i64 0), (.int .i64 0), (.bool false)]) 24 rfl Try.underlying28 info60 rfl (by decide) (by omega) v5 [] l _ _ _ (fun _ => True) (fun _ => False) rfl rfl ?aO ?aR (fun _ _ h => h) (fun _ h => h.elim) ?aF ?aB ?aS ?aL ?_; (case aR => exact Kd.C_below HC.out HB5.out); (case aB => exact HB5.out); (case aF => exact fun _ _ => trivial); (case aO => exact HO5.out); (case aS => exact HB5.out.size); (case aL => simp; omega); intro v7 w2 ho hb hg hat)
      | go_in)
    go_ret
    exact ⟨_, rfl, ho, hb⟩
set_option maxHeartbeats 4000000 in
set_option maxRecDepth 100000 in
theorem clone57.calls (A : Option Addr) (c : Nat) (l : List Int) (w : World) (hr : Kd.C (Kd.int .i64) w A l.length l) (hl : l.length < 1000) :
    Calls Try.prog 57 #[.slice A l.length c] w fun e w' => ∃ v : Value, e = .returned v ∧ Kd.R (Kd.int .i64) 3 w' w.heap.size (fun _ => True) v l ∧ Below w.heap.size w w' := by
  have HC := Aside0.mk hr
  have hq := Lib.run_eql_slice_nil w 54 3 A l.length c 0 0 Try.underlying54
  cases A with
  | none =>
    have hn : l = [] := by
      obtain ⟨_, _, h3⟩ := hr
      apply List.eq_nil_of_length_eq_zero
      apply Nat.eq_zero_of_not_pos
      intro hp
      obtain ⟨ad, h, _⟩ := h3 hp
      cases h
    subst hn
    clear hr hq
    have hq := Lib.run_eql_slice_nil (P := Try.prog) w 54 3 none 0 c 0 0 Try.underlying54
    go_enter Try.func57, Try.ntmps57
    go_wp2
    go_ret
    exact ⟨_, rfl, Kd.R_nil _ _ _ _ _, Below.refl _ _⟩
  | some ad =>
    clear hr
    go_enter Try.func57, Try.ntmps57
    go_wp2_with (first
      | ((with_reducible refine gate_dst (N := 5) rfl ?_); refine Kd.R_lit (Kd.int .i64) _ 3 ?hg (N := 5) ?hd (xs := ([] : List Int)) (inner := []) (ok := fun _ => True) (okp := fun _ => True) ?hr ?hp (fun _ hk => hk) trivial (Below.refl _ _) (Nat.le_refl _) (by simp) ?_; (case hd => rfl); (case hg => rfl); (case hr => first | (go_simp; done) | (go_simp; rfl)); (case hp => exact (Reps.none _ _)); intro v5 w1 ho5 hb5 hg5 hn5; have HO5 := Aside0.mk ho5; have HB5 := Aside0.mk hb5; clear ho5 hb5 hg5 hn5)
      | ((with_reducible refine gate_builtin (b := .append) (xs := #[.tmp 5, .tmp 6]) rfl ?_); at_builtin; refine Kd.R_append_rows (Kd.int .i64) (w0 := w) w.heap.size rfl (.tmp 5) (.tmp 6) 54 3 (.int .i64 0) 8 rfl Try.underlying54 info3 rfl (by decide) (by omega) v5 [] l _ _ _ (fun _ => True) (fun _ => False) rfl rfl ?aO ?aR (fun _ _ h => h) (fun _ h => h.elim) ?aF ?aB ?aS ?aL ?_; (case aR => exact Kd.C_below HC.out HB5.out); (case aB => exact HB5.out); (case aF => exact fun _ _ => trivial); (case aO => exact HO5.out); (case aS => exact HB5.out.size); (case aL => simp; omega); intro v7 w2 ho hb hg hat)
      | go_in)
    go_ret
    exact ⟨_, rfl, ho, hb⟩
end Go.Proofs.Ytcldldmedphcfaa.C
