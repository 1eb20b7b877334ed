import Derived.Test.YthbonailomfjlaaHArr
/- What a law's argument that is a clock reads as: a drift and a slice of readings. Condition: what the row's reading gives. -/
namespace Go.Proofs.Ythbonailomfjlaa.C
open Go.RowKit Go.Proofs.YthbonailomfjlaaW.PrintWords Go.Proofs.YthbonailomfjlaaW.PrintLast Go.Proofs.YthbonailomfjlaaW.PrintMore Go.Deep Go.ChangeShapes Go.WideShapes
section
variable {H : Type} {enc : TypeId × Value → H} {P : Program} {w : World} {base : Nat} {spare : Nat → Bool} {held : Bool}
theorem open_kd0 {α : Type} (d : Kd α) (good : α → Prop) {T e : TypeId} {A : Option Addr} {len cap : Nat} {D : DataW H} {ps : List MemPlace} (hu : P.underlying T = some (.slice e)) (hc : P.cellsOf e = d.sz)
    (hel : ∀ (n : Nat) (cs : List Value) y, DataW.trod enc P w base spare held n e cs = some y → ∃ x, d.K w x cs ∧ good x) (h : DataW.Trod enc P w base spare held T (.slice A len cap) D ps) :
    ∃ l : List α, len = l.length ∧ l.length ≤ cap ∧ d.C w A l.length l ∧ (∀ x, x ∈ l → good x) := by
  obtain ⟨fuel, hf⟩ := h
  rcases open_slice hu hf with ⟨hcs, _⟩ | ⟨a, len', cap', m, n, D', Pl, hcs, _, hl, hm, hmm, hx, hi⟩
  · simp [Value.cells] at hcs
    obtain ⟨rfl, rfl, rfl⟩ := hcs
    refine ⟨[], rfl, Nat.le_refl _, ⟨rfl, Nat.zero_le _, fun h => absurd h (by simp)⟩, ?_⟩
    intro x hx
    cases hx
  · simp [Value.cells] at hcs
    obtain ⟨rfl, rfl, rfl⟩ := hcs
    have hlm : len ≤ m := by
      rw [hmm]
      split
      · exact hl
      · exact Nat.le_refl _
    have hch : ∀ i : Nat, ∃ x : Option α, i < len → ∃ x' cs, x = some x' ∧ d.K w x' cs ∧ good x' ∧ ∀ q u, cs[q]? = some u → w.cell? (a.add (i * d.sz + q)) = some u := by
      intro i
      by_cases hlt : i < len
      · obtain ⟨cs, h1, h2⟩ := hi i (by omega)
        obtain ⟨x, hx1, hx2⟩ := hel _ _ _ h2
        obtain ⟨_, hlen, hcell⟩ := World.cells?_some h1
        refine ⟨some x, fun _ => ⟨x, cs, rfl, hx1, hx2, fun q u hq => ?_⟩⟩
        have hq' : q < P.cellsOf e := by
          have := (List.getElem?_eq_some_iff.1 hq).1
          omega
        have := hcell q hq'
        rw [Go.Deep.add_add, hc] at this
        rw [this, hq]
      · exact ⟨none, fun h => absurd h hlt⟩
    obtain ⟨f, hf'⟩ : ∃ f : Nat → Option α, ∀ i, i < len → ∃ x' cs, f i = some x' ∧ d.K w x' cs ∧ good x' ∧ ∀ q u, cs[q]? = some u → w.cell? (a.add (i * d.sz + q)) = some u := ⟨fun i => (hch i).choose, fun i => (hch i).choose_spec⟩
    obtain ⟨l, hl1, hl2⟩ : ∃ l : List α, l.length = len ∧ ∀ i, i < len → ∃ x' cs, l[i]? = some x' ∧ d.K w x' cs ∧ good x' ∧ ∀ q u, cs[q]? = some u → w.cell? (a.add (i * d.sz + q)) = some u := by
      clear hf hx hmm hlm hi hch hl hm
      induction len with
      | zero => exact ⟨[], rfl, fun i hi => by omega⟩
      | succ len ih =>
        obtain ⟨l, h1, h2⟩ := ih (fun i hi => hf' i (by omega))
        obtain ⟨x, cs, e1, e2, e3, e4⟩ := hf' len (by omega)
        refine ⟨l ++ [x], by simp [h1], fun i hi => ?_⟩
        by_cases hlt : i < len
        · obtain ⟨x', cs', g1, g2, g3, g4⟩ := h2 i hlt
          exact ⟨x', cs', by rw [List.getElem?_append_left (by omega)]; exact g1, g2, g3, g4⟩
        · have : i = len := by omega
          subst this
          exact ⟨x, cs, by rw [← h1]; simp, e2, e3, e4⟩
    subst hl1
    refine ⟨l, rfl, hl, ⟨rfl, by unfold maxLen at hm; omega, fun hn => ⟨a, rfl, fun j p hp => ?_⟩⟩, fun x hx' => ?_⟩
    · have hj := (List.getElem?_eq_some_iff.1 hp).1
      obtain ⟨x', cs, g1, g2, g3, g4⟩ := hl2 j hj
      rw [hp] at g1
      obtain rfl := Option.some.inj g1
      exact ⟨cs, d.K_len g2, g2, g4⟩
    · obtain ⟨i, hi', rfl⟩ := List.getElem_of_mem hx'
      obtain ⟨x', cs, g1, g2, g3, g4⟩ := hl2 i hi'
      rw [List.getElem?_eq_getElem hi'] at g1
      obtain rfl := Option.some.inj g1
      exact g3
end
section
variable {H : Type} {enc : TypeId × Value → H} {w : World} {base : Nat} {spare : Nat → Bool} {held : Bool}
theorem cells50 : Try.prog.cellsOf 50 = 3 := by kernel_rfl
theorem cells24 : Try.prog.cellsOf 24 = 2 := by kernel_rfl
theorem cells22 : Try.prog.cellsOf 22 = 1 := by kernel_rfl
theorem el50 (n : Nat) (cs : List Value) (y : DataW H × List MemPlace) (h : DataW.trod enc Try.prog w base spare held n 50 cs = some y) : ∃ x, k50.K w x cs ∧ True := by
  obtain ⟨xs, m, _, _, hl, hn, hx⟩ := DataW.trod_struct Try.underlying50 h
  rw [cells50] at hl
  match cs, hl with
  | [c0, c1, c2], _ =>
    have hn2 : xs.length = 3 := hn
    have h0 : DataW.trod enc Try.prog w base spare held m 3 (List.take (Try.prog.cellsOf 3) (List.drop 0 [c0, c1, c2])) = xs[0]? := hx 0 _ rfl
    have h1 : DataW.trod enc Try.prog w base spare held m 3 (List.take (Try.prog.cellsOf 3) (List.drop 1 [c0, c1, c2])) = xs[1]? := hx 1 _ rfl
    have h2 : DataW.trod enc Try.prog w base spare held m 3 (List.take (Try.prog.cellsOf 3) (List.drop 2 [c0, c1, c2])) = xs[2]? := hx 2 _ rfl
    rw [cells3] at h0 h1 h2
    obtain ⟨a, e0, _⟩ := one_int (by rw [List.getElem?_eq_getElem (by omega)]; rfl) h0
    obtain ⟨b, e1, _⟩ := one_int (by rw [List.getElem?_eq_getElem (by omega)]; rfl) h1
    obtain ⟨c, e2, _⟩ := one_int (by rw [List.getElem?_eq_getElem (by omega)]; rfl) h2
    simp at e0 e1 e2
    subst e0 e1 e2
    exact ⟨⟨a, b, c⟩, k50_mk w ⟨a, b, c⟩, trivial⟩
theorem okWide_clk {r : Reach} {b0 : Nat} {v : Value} (h : Value.okWide Try.prog w r b0 24 v) : ∃ cs, v = .agg cs ∧ cs.size = Try.prog.cellsOf 24 := by
  simp only [Value.okWide, Try.underlying24] at h
  obtain ⟨cs, h1, h2, _⟩ := h
  exact ⟨cs, h1, h2⟩
theorem open_clk {cs : Array Value} {d : DataW H} {ps : List MemPlace} (h : DataW.Trod enc Try.prog w base spare held 24 (.agg cs) d ps) :
    ∃ (a : Int) (A : Option Addr) (c : Nat) (l : List S50), cs = #[.int .i64 a, .slice A l.length c] ∧ l.length ≤ c ∧ k50.C w A l.length l := by
  obtain ⟨f, hf⟩ := h
  obtain ⟨xs, m, _, _, hl, hn, hx⟩ := DataW.trod_struct Try.underlying24 hf
  rw [cells24] at hl
  have hcs : (Value.agg cs).cells.toList = cs.toList := rfl
  rw [hcs] at hl hx
  obtain ⟨L, hL⟩ : ∃ L, cs.toList = L := ⟨_, rfl⟩
  rw [hL] at hl hx
  match L, hl, hL with
  | [c0, c1], _, hL =>
    have hn2 : xs.length = 2 := hn
    have h0 : DataW.trod enc Try.prog w base spare held m 3 (List.take (Try.prog.cellsOf 3) (List.drop 0 [c0, c1])) = xs[0]? := hx 0 _ rfl
    have h1 : DataW.trod enc Try.prog w base spare held m 22 (List.take (Try.prog.cellsOf 22) (List.drop 1 [c0, c1])) = xs[1]? := hx 1 _ rfl
    rw [cells3] at h0
    rw [cells22] at h1
    obtain ⟨a, e0, _⟩ := one_int (by rw [List.getElem?_eq_getElem (by omega)]; rfl) h0
    simp at e0
    subst e0
    rw [List.getElem?_eq_getElem (by omega)] at h1
    have h1' : DataW.trod enc Try.prog w base spare held m 22 [c1] = some xs[1] := h1
    have hs : ∃ A n c, c1 = .slice A n c := by
      rcases open_slice Try.underlying22 h1' with ⟨hq, _⟩ | ⟨a, len', cap', _, _, _, _, hq, _⟩
      · simp at hq
        exact ⟨_, _, _, hq⟩
      · simp at hq
        exact ⟨_, _, _, hq⟩
    obtain ⟨A, n, c, rfl⟩ := hs
    obtain ⟨l, rfl, q1, q2, _⟩ := open_kd0 (enc := enc) (spare := spare) (held := held) (base := base) k50 (fun _ => True) Try.underlying22 cells50 el50 (D := xs[1].1) (ps := xs[1].2) ⟨m, h1'⟩
    refine ⟨a, A, c, l, ?_, q1, q2⟩
    cases cs
    simp only at hL
    rw [hL]
end
end Go.Proofs.Ythbonailomfjlaa.C
