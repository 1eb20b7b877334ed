import Derived.Test.YtcldldmedphcfaaCKinds
import Derived.Maps.OwnSet
/- Maps from whole numbers to whole numbers that a call makes, told by a Lean function; by hand, over the kit's laws. Condition: none. -/
namespace Go.Proofs.Ytcldldmedphcfaa.C
open Go.RowKit Go.Proofs.YtcldldmedphcfaaW.PrintWords Go.Proofs.YtcldldmedphcfaaW.PrintLast Go.Proofs.YtcldldmedphcfaaW.PrintMore
theorem law3 : Maps.Keyed Try.prog 3 := Maps.int_keyed Try.underlying3
theorem zero3 (w : World) : (zeroValue 3).run Try.prog w = .ok (.int .i64 0) w := by kernel_rfl
theorem keyI (k : Int) (h : (Lit.int .i64 k).wf = true) : keyOf Try.prog 3 (.int .i64 k) = some (.int .i64 k) := Maps.keyOf_int_mk Try.underlying3 h
theorem wfI (k : Int) (h : -9223372036854775808 ≤ k ∧ k ≤ 9223372036854775807) : (Lit.int .i64 k).wf = true := WalkArith.wf_i64 (by omega)
/-- Block b is a map of at most n entries that holds what g says. -/
def MI (w : World) (b n : Nat) (g : Int → Option Int) : Prop :=
  ∃ D : DataW Unit, w.ownsMap Try.prog 3 (plainElem Try.prog 3) b n D ∧ (∀ k, Maps.has D (.int .i64 k) = (g k).isSome) ∧ ∀ k, D.atKey (.int .i64 k) (.lit (.int .i64 0)) = .lit (.int .i64 ((g k).getD 0))
theorem MI_made (w : World) : MI (w.alloc (.map #[] 0)) w.heap.size 0 (fun _ => none) := ⟨_, World.ownsMap_made _ _ _ _, fun _ => rfl, fun _ => rfl⟩
theorem MI_kept {w w' : World} {b n : Nat} {g : Int → Option Int} {row : Option Nat} (h : MI w b n g) (hg : w.grownBy w' row) (hne : some b ≠ row) : MI w' b n g := by
  obtain ⟨D, h1, h2, h3⟩ := h
  exact ⟨D, h1.kept hg hne, h2, h3⟩
/-- What g becomes when v is stored at k. -/
def upd (g : Int → Option Int) (k v : Int) : Int → Option Int := fun j => if j = k then some v else g j
theorem keyLit (k : Int) : WideAt.IsKeyLit (.int .i64 k) := trivial
theorem OM_block {H : Type} {w w' : World} {R : Value → Option (DataW H × List MemPlace)} {b n : Nat} {D : DataW H} (h : w.ownsMap Try.prog 3 R b n D) (hb : w'.heap[b]? = w.heap[b]?) : w'.ownsMap Try.prog 3 R b n D := by
  obtain ⟨es, clock, h1, h4⟩ := h
  exact ⟨es, clock, hb.trans h1, h4⟩
theorem OM_below {H : Type} {w w' : World} {R : Value → Option (DataW H × List MemPlace)} {b n : Nat} {D : DataW H} (h : w.ownsMap Try.prog 3 R b n D) (hb : Below w.heap.size w w') : w'.ownsMap Try.prog 3 R b n D := OM_block h (hb.block b h.lt)
theorem MI_block {w w' : World} {b n : Nat} {g : Int → Option Int} (h : MI w b n g) (hb : w'.heap[b]? = w.heap[b]?) : MI w' b n g := by
  obtain ⟨D, ⟨es, clock, h1, h4⟩, h2, h3⟩ := h
  exact ⟨D, ⟨es, clock, hb.trans h1, h4⟩, h2, h3⟩
theorem MI_below {w w' : World} {b n : Nat} {g : Int → Option Int} (h : MI w b n g) (hb : Below w.heap.size w w') : MI w' b n g := by
  obtain ⟨D, h1, h2, h3⟩ := h
  exact ⟨D, OM_below h1 hb, h2, h3⟩
theorem MI_look {w : World} {b n : Nat} {g : Int → Option Int} (h : MI w b n g) (k : Int) (hk : (Lit.int .i64 k).wf = true) : (Instr.lookup 72 (.map (some b)) (.int .i64 k) false).run Try.prog w = .ok (.int .i64 ((g k).getD 0)) w := by
  obtain ⟨D, h1, h2, h3⟩ := h
  obtain ⟨c, hrun, hat, hwc⟩ := h1.lookup_int law3 Try.underlying72 Try.underlying3 (zero3 w) (keyI k hk)
  have e : ((g k).getD 0) = c := by
    have h4 := (h3 k).symm.trans hat
    clear hrun hat hwc h1 h2 h3
    generalize (g k).getD 0 = x at h4 ⊢
    injection h4 with h4
    injection h4
  rw [e]
  exact hrun
theorem MI_mono {w : World} {b n n' : Nat} {g : Int → Option Int} (h : MI w b n g) (hn : n ≤ n') : MI w b n' g := by
  obtain ⟨D, h1, h2, h3⟩ := h
  exact ⟨D, h1.mono hn, h2, h3⟩
theorem MI_map {w : World} {b n : Nat} {g : Int → Option Int} (h : MI w b n g) : ∃ es clock, w.heap[b]? = some (.map es clock) := by
  obtain ⟨D, ⟨es, clock, h1, _⟩, _⟩ := h
  exact ⟨es, clock, h1⟩
theorem wpList_MI_put {ops : Array Oper} {rest : List Oper} {o : Oper} {a : Act} {Q : Exit → Act → World → Prop} (w : World)
    (hg : o.guard = none) (m x v : Operand) (hop : o.op = Op.mapUpdate 72 m x v) (b n : Nat) (g : Int → Option Int)
    (hm : a.eval m = .map (some b)) (h : MI w b n g) (hn : n < 1000000) (k u : Int) (hk : (Lit.int .i64 k).wf = true) (hu : (Lit.int .i64 u).wf = true) (hx : a.eval x = .int .i64 k) (hv : a.eval v = .int .i64 u)
    (hK : ∀ w', MI w' b (n + 1) (upd g k u) → w.grownBy w' (some b) → wpList Try.prog ops Q rest (a.put o.dst undef) w') :
    wpList Try.prog ops Q (o :: rest) a w := by
  obtain ⟨D, h1, h2, h3⟩ := h
  refine wpList_mapUpdate_own w hg m x v 72 hop 3 3 law3 Try.underlying72 _ b n D hm h1 (by unfold maxLen; omega) _ _ (.int .i64 k) hx hv (keyI k hk) (.lit (.int .i64 u)) [] (plainElem_int Try.underlying3 hu) ?_
  intro w' hw' hgr
  refine hK w' ⟨_, hw', fun j => ?_, fun j => ?_⟩ hgr
  · by_cases c : j = k
    · subst c
      rw [Maps.has_put_same h1.isMap (keyLit j)]
      simp [upd]
    · rw [Maps.has_put_other (by intro e; injection e with _ e; exact c e), h2 j]
      simp [upd, c]
  · by_cases c : j = k
    · subst c
      rw [Maps.atKey_put_same h1.isMap (keyLit j)]
      simp [upd]
    · rw [Maps.atKey_put_other (by intro e; injection e with _ e; exact c e), h3 j]
      simp [upd, c]
end Go.Proofs.Ytcldldmedphcfaa.C
