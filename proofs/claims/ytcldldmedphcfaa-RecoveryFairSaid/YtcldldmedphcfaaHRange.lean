import Derived.Test.YtcldldmedphcfaaHOpen
import Derived.RangeFuncLeaves
import Derived.RangeFuncRecord
/- The range over recovery.open, whose body stores the tick and leaves: what it leaves in the world. Conditions: a valid region; there is room at some tick. -/
namespace Go.Proofs.Ytcldldmedphcfaa.C
open Go.RowKit Go.Proofs.YtcldldmedphcfaaW.PrintWords Go.Proofs.YtcldldmedphcfaaW.PrintLast Go.Proofs.YtcldldmedphcfaaW.PrintMore
set_option linter.unusedVariables false
set_option maxHeartbeats 1000000 in
theorem open42 (A : Option Addr) (n c : Nat) (s : Int) (mb : Nat) (from_ : Int) (w : World) :
    Calls Try.prog 42 #[.agg #[.slice A n c, .int .i64 s], .map (some mb), .int .i64 from_] w fun e w' => e = .returned (.func (.func 56) #[] #[.pointer (some ⟨w.heap.size + 2, 0, none⟩), .pointer (some ⟨w.heap.size + 1, 0, none⟩), .pointer (some ⟨w.heap.size, 0, none⟩)]) ∧
      w' = ((w.alloc (.cells #[.slice A n c, .int .i64 s] 26)).alloc (.cells #[.map (some mb)] 72)).alloc (.cells #[.int .i64 from_] 3) := by
  go_enter Try.func42, Try.ntmps42
  go_wp2
  go_ret
  exact ⟨rfl, rfl⟩
/-- What the range over open leaves. -/
structure AfterRange (W0 W' : World) (tb : Nat) (x0 x1 t : Int) : Prop where
  grown : W0.grownBy W' (some tb)
  blk : W'.heap[tb]? = some (.cells #[.int .i64 x0, .int .i64 x1, .int .i64 t] 39 (0, 0))
  mark : W'.heap[W0.heap.size]? = some (.deferred (some []))
/-- The record of the loop. -/
def recP (fn : FuncId) (a : Act) (asg bod : Code) (D : Nat) (st : LoopState) (pend : Option Code) : Loop :=
  { state := st, pending := pend, fn, tmps := a.tmps, params := #[46], assign := asg, body := bod, defers := D }
set_option maxHeartbeats 1000000 in
theorem range_open {asg bod : Code} {Q : Exit → Act → World → Prop} {a : Act} {W0 : World} (tb bR bM bF mb nm : Nat) (A : Option Addr) (c : Nat) (S : List S67) (s from_ t x0 x1 x2 : Int) (g : Int → Option Int) (K : Nat)
    (h45 : a.eval (.tmp 45) = .func (.func 56) #[] #[.pointer (some ⟨bF, 0, none⟩), .pointer (some ⟨bM, 0, none⟩), .pointer (some ⟨bR, 0, none⟩)])
    (hv : validB S s = true) (h0 : 0 ≤ from_) (h1 : from_ + K ≤ 1000000) (hf : findOpen S (fun k => (g k).getD 0) K from_ = some t)
    (hB : RBo A S.length c s bR bM bF mb nm g from_ W0) (hC : Kd.C k67 W0 A S.length S) (hc : S.length ≤ c)
    (htb : W0.heap[tb]? = some (.cells #[.int .i64 x0, .int .i64 x1, .int .i64 x2] 39 (0, 0)))
    (hround : ∀ (l : Nat) (fn : FuncId) (W1 : World) (r : Loop), W1.heap[l]? = some (.loop r) → r.state = .ready → tb ≠ l → W1.heap[tb]? = some (.cells #[.int .i64 x0, .int .i64 x1, .int .i64 x2] 39 (0, 0)) →
      RoundIn Fence.wide 2 Try.prog l fn (a.tmps.setIfInBounds 46 (.int .i64 t)) asg bod W1 (fun e W' => e = .returned (.bool false) ∧ W' = ((W1.putObj l (.loop { r with state := .busy })).setCell ⟨tb, 2, none⟩ (.int .i64 t)).putObj l (.loop { r with state := .done, pending := some (.exit 2) })))
    (hQ : ∀ W', AfterRange W0 W' tb x0 x1 t → Q (.exit 2) { a with defers := { target := .collected W0.heap.size, args := #[] } :: a.defers } W') :
    (Code.rangeFunc (.tmp 45) #[46] asg bod).wp Try.prog Q a W0 := by
  refine wpIn_wide (n := 4).1 (wpIn_rangeFunc ?_)
  intro fn _
  obtain ⟨W1, hW1⟩ : ∃ W1, (W0.alloc (.deferred (some []))).alloc (.loop (recP fn a asg bod W0.heap.size .ready none)) = W1 := ⟨_, rfl⟩
  have hold : ∀ k, k < W0.heap.size → W1.heap[k]? = W0.heap[k]? := fun k hk => by
    rw [← hW1]; exact (Below.heap_alloc _ _ k (by simp; omega)).trans (Below.heap_alloc _ _ k hk)
  have hB1 : Below W0.heap.size W0 W1 := by rw [← hW1]; exact below_alloc (below_alloc (Below.refl _ _) _) _
  have hL : W1.heap[W0.heap.size + 1]? = some (.loop (recP fn a asg bod W0.heap.size .ready none)) := by
    rw [← hW1]; have := World.alloc_heap_new (W0.alloc (.deferred (some []))) (.loop (recP fn a asg bod W0.heap.size .ready none)); rwa [World.size_alloc] at this
  have hD : W1.heap[W0.heap.size]? = some (.deferred (some [])) := by rw [← hW1]; exact (Below.heap_alloc _ _ _ (by simp)).trans (World.alloc_heap_new W0 _)
  have htlt := blk_lt htb
  refine ⟨W0.heap.size + 1, [{ target := .collected W0.heap.size, args := #[] }], W1, { target := .fn (.func 56) #[.pointer (some ⟨bF, 0, none⟩), .pointer (some ⟨bM, 0, none⟩), .pointer (some ⟨bR, 0, none⟩)], args := #[.func (.yield (W0.heap.size + 1)) #[] #[]] }, W1, 56,
    #[.func (.yield (W0.heap.size + 1)) #[] #[], .pointer (some ⟨bF, 0, none⟩), .pointer (some ⟨bM, 0, none⟩), .pointer (some ⟨bR, 0, none⟩)], W1, ?_, ?_, ?_, ?_, fun _ => by omega, ?_⟩
  · rw [← hW1]; exact run_enterLoop_outer _ _ _ _ _
  · simp only [resolve, h45]
    simp [go_sem]
  · intro f' hf'; trivial
  · simp [invoke, go_sem]
  · refine (open56 3 (by omega) (W0.heap.size + 1) bR bM bF mb nm A c S s from_ t g K W1 (fun W' => ∃ W2, Below W1.heap.size W1 W2 ∧ W' = ((W2.putObj (W0.heap.size + 1) (.loop { recP fn a asg bod W0.heap.size .ready none with state := .busy })).setCell ⟨tb, 2, none⟩ (.int .i64 t)).putObj (W0.heap.size + 1) (.loop { recP fn a asg bod W0.heap.size .ready none with state := .done, pending := some (.exit 2) })) hv h0 h1 hf (RBo_below hB hB1) (Kd.C_below hC hB1) hc ?_).mono ?_
    · intro W2 hb2
      have hL2 := blk_below hL hb2
      exact ⟨fn, a.tmps.setIfInBounds 46 (.int .i64 t), asg, bod, by simpa [recP] using run_yield (P := Try.prog) (args := #[.int .i64 t]) hL2 rfl, (hround (W0.heap.size + 1) fn W2 _ hL2 rfl (by omega) (blk_below (blk_below htb hB1) hb2)).mono fun e W' ⟨he, hw⟩ => ⟨he, W2, hb2, hw⟩⟩
    · rintro e W' ⟨⟨v, rfl⟩, W2, hb2, rfl⟩
      have hL2 := blk_below hL hb2
      have hl2 := blk_lt hL2
      have hT2 := blk_below (blk_below htb hB1) hb2
      have ht2 := blk_lt hT2
      have hD2 := blk_below hD hb2
      have hne : W0.heap.size + 1 ≠ tb := by omega
      refine ⟨some (.exit 2), _, run_endLoop (r := { recP fn a asg bod W0.heap.size .ready none with state := .done, pending := some (.exit 2) }) (World.putObj_heap_same (by simpa using hl2)) (by simp), ?_⟩
      refine wpIn_wide.2 ?_
      apply wp_exit
      have hB2 : Below W0.heap.size W0 W2 := below_step hB1 hb2
      refine hQ _ ⟨⟨hB2.os, hB2.tape, hB2.output, ?_, ?_⟩, ?_, ?_⟩
      · have := hB2.size
        simpa [World.setCell] using this
      · intro k hk hkt
        have hk1 : k ≠ tb := fun e => hkt (by rw [e])
        refine (World.putObj_heap_other (by omega)).trans ((World.putObj_heap_other (by omega)).trans ((Below.heap_setCell _ _ _ k hk1).trans ((World.putObj_heap_other (by omega)).trans (hB2.block k hk))))
      · refine (World.putObj_heap_other (by omega)).trans ((World.putObj_heap_other (by omega)).trans ?_)
        have hT3 : (W2.putObj (W0.heap.size + 1) (.loop { recP fn a asg bod W0.heap.size .ready none with state := .busy })).heap[tb]? = some (.cells #[.int .i64 x0, .int .i64 x1, .int .i64 x2] 39 (0, 0)) := (World.putObj_heap_other (by omega)).trans hT2
        exact blk_set hT3 2 _
      · refine (World.putObj_heap_other (by omega)).trans ((World.putObj_heap_other (by omega)).trans ((Below.heap_setCell _ _ _ _ (show W0.heap.size ≠ tb by omega)).trans ((World.putObj_heap_other (by omega)).trans hD2)))
end Go.Proofs.Ytcldldmedphcfaa.C
