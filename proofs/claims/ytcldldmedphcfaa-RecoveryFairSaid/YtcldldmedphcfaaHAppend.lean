import Derived.Test.YtcldldmedphcfaaCKinds
import Derived.ArgAppend
/- A cut that ends its capacity, and what is appended to it: always a row of its own. Condition: something is appended. -/
namespace Go.Proofs.Ytcldldmedphcfaa.C
open Go.RowKit Go.Proofs.YtcldldmedphcfaaW.PrintWords Go.Proofs.YtcldldmedphcfaaW.PrintLast Go.Proofs.YtcldldmedphcfaaW.PrintMore
set_option linter.unusedVariables false
set_option linter.unusedSimpArgs false
section
variable {P : Program}
theorem cut_cap (t e : TypeId) (kh km : IntKind) {i : TypeInfo} (ht : P.underlying t = some (.slice e)) (hi : P.info? e = some i) (A : Option Addr) (n c : Nat) (j : Int) (h0 : 0 ≤ j) (hm : j ≤ n) (hc : n ≤ c) :
    ∀ W : World, (Instr.slice t (.slice A n c) none (some (.int kh j)) (some (.int km j))).run P W = .ok (.slice A j.toNat j.toNat) W := by
  intro W
  have hel : P.elem t = e := by simp [Program.elem, ht]
  have hu : P.underlying t = some (.slice (P.elem t)) := by rw [hel]; exact ht
  have ha : (A.map fun x => x.add 0) = A := by cases A <;> simp [Addr.add]
  rw [run_slice_hm W t A n c hu kh km j j h0 (Int.le_refl _) (by omega), hel]
  simp [sizeOf, typeInfo, hi, sliced, Result.andThen, ha]
variable {ops : Array Oper} {o : Oper} {a : Act} {Q : Exit → Act → World → Prop} {Kc : Act → World → Prop} {α : Type}
theorem C_append_fresh_step (d : Kd α) {Rr : α → List Value → Prop} {w0 W : World} (base : Nat) (hw : Region.wanted o (yielded ops a.tmps) = true) (s x : Operand) (t e : TypeId) (z : Value) (bytes : Nat)
    (ho : o.op = .call { callee := .builtin .append, args := #[s, x], argTypes := #[t, t] })
    (ht : P.underlying t = some (.slice e)) (hinfo : (P.info? e).map (fun i => (i.zero, i.size, i.bytes)) = some (some z, d.sz, bytes)) (hz : z.cells.size = d.sz) (hs0 : 0 < d.sz) (hb0 : 0 < bytes)
    (A0 : Option Addr) (n : Nat) (xs ys : List α) (A : Option Addr) (m c : Nat) (ok okp : Nat → Prop) (hs : a.eval s = .slice A0 n n) (hx : a.eval x = .slice A m c)
    (HX : ReadsRow Rr d.sz W A0 n xs) (HR : ReadsRow Rr d.sz W A m ys) (hm0 : 0 < m) (hKM : ∀ x cs, Rr x cs → d.M W base okp x cs) (hokp : ∀ k, okp k → ok k) (hown0 : ∀ k, okp k → k < W.heap.size) (hfresh : ∀ k, W.heap.size ≤ k → ok k)
    (HB : Below base w0 W) (hbase : base ≤ W.heap.size) (hl : (n + m) * bytes ≤ 140737488355328)
    (h : ∀ v1 w1, d.R e w1 base ok v1 (xs ++ ys) → Below base w0 w1 → W.grownBy w1 (Value.slice none 0 0).ownBlock → (v1.ownBlock = (Value.slice none 0 0).ownBlock ∨ ∃ b, v1.ownBlock = some b ∧ W.heap.size ≤ b) → Kc (a.put o.dst v1) w1) :
    if Region.wanted o (yielded ops a.tmps) = true then Oper.wp P o a W Kc Q else Kc (a.put o.dst undef) W := by
  have hn : xs.length = n := HX.1
  cases A0 with
  | none =>
    have h0 : n = 0 := by
      rcases Nat.eq_zero_or_pos n with h0 | h0
      · exact h0
      · obtain ⟨ad, q, _⟩ := HX.2.2 h0
        cases q
    subst h0
    obtain rfl : xs = [] := List.eq_nil_of_length_eq_zero hn
    exact Kd.R_append_rows_step d base hw s x t e z bytes ho ht hinfo hz hs0 hb0 (.slice none 0 0) [] ys A m c ok okp hs hx (Kd.R_nil _ _ _ _ _) HR hKM (fun k hk => ⟨hokp k hk, by simp [Value.ownBlock]⟩) hfresh HB hbase (by simpa using hl) h
  | some ad0 =>
    obtain ⟨i0, hi, hzz⟩ := Option.map_eq_some_iff.1 hinfo
    simp only [Prod.mk.injEq] at hzz
    obtain ⟨hz0, hz1, hz2⟩ := hzz
    have hm : ys.length = m := HR.1
    have hlen : n + m ≤ 140737488355328 := Nat.le_trans (Nat.le_mul_of_pos_right _ hb0) hl
    cases A with
    | none =>
      obtain ⟨ad, q, _⟩ := HR.2.2 hm0
      cases q
    | some ad =>
      obtain ⟨olds, hor, hoc⟩ := ReadsRow.inner_ HX
      obtain ⟨news, hnr, hnc⟩ := ReadsRow.inner_ HR
      obtain ⟨v1, w1, hrun, hown, hg⟩ := run_append_arg_grows (P := P) W t o.type e i0 z d.sz bytes ht hi hz0 hz1 hz2 hz hs0 ad0 n n olds (by rw [hor.1, hn]) hoc ad m c news (by rw [hnr.1, hm]) hnc (by omega) (by simp only [maxLen]; omega) hl
      have hb1 : ∀ k, v1.ownBlock = some k → W.heap.size ≤ k := fun k hk => own_base hown k hk
      have hat : v1.ownBlock = (Value.slice none 0 0).ownBlock ∨ ∃ b, v1.ownBlock = some b ∧ W.heap.size ≤ b := by
        cases q : v1.ownBlock with
        | none => exact Or.inl rfl
        | some b => exact Or.inr ⟨b, rfl, hb1 b q⟩
      have step : ∀ {q : α} {cs : List Value}, Rr q cs → d.M w1 base (fun k => ok k ∧ some k ≠ v1.ownBlock) q cs := by
        intro q cs hq
        have h1 := d.M_move (w1 := w1) (fun k hk => hg.block k hk.2.2.1 (by simp)) (d.M_bound (hKM _ _ hq))
        exact d.M_mono (fun k hk => ⟨hokp k hk.1, fun e_ => by
          have := hb1 k e_.symm
          have := hown0 k hk.1
          omega⟩) h1
      have hR : d.R e w1 base ok v1 (xs ++ ys) := ⟨fun k hk => hfresh k (hb1 k hk), olds ++ news, by rw [List.length_append, hn, hm]; exact own_weaken hown hbase, Kd.reps_append (hor.imp_ (fun _ _ hq => step hq)) (hnr.imp_ (fun _ _ hq => step hq))⟩
      rw [if_pos hw]
      unfold Oper.wp execOp
      simp only [ho, resolve, invoke, builtin, Sem.run_bind, Sem.run_pure, Result.andThen_ok, List.map_toArray, List.map_cons, List.map_nil, hs, hx, hrun]
      exact h v1 w1 hR (HB.grown hg hbase (fun k hk => by cases hk)) hg hat
end
end Go.Proofs.Ytcldldmedphcfaa.C
