import Derived.Test.YtcldldmedphcfaaHPick
import Derived.Test.YtcldldmedphcfaaAWords
import Derived.Deep.Slices
import Derived.OpenShut
/- A law's argument that is a slice of elements of whole numbers, as the printed contracts want it. Condition: what the row's reading gives. -/
namespace Go.Proofs.Ytcldldmedphcfaa.C
open Go.RowKit Go.Proofs.YtcldldmedphcfaaW.PrintWords Go.Proofs.YtcldldmedphcfaaW.PrintLast Go.Proofs.YtcldldmedphcfaaW.PrintMore Go.Deep Go.ChangeShapes Go.WideShapes
theorem i64_of_wf {a : Int} (h : (Lit.int .i64 a).wf = true) : I64 a := by
  simp [Lit.wf, IntKind.min, IntKind.max, IntKind.signed, IntKind.bits] at h
  exact ⟨by omega, by omega⟩
section
variable {H : Type} {enc : TypeId × Value → H} {P : Program} {w : World} {base : Nat} {spare : Nat → Bool} {held : Bool}
theorem open_kd {α : Type} (d : Kd α) (good : α → Prop) {T e : TypeId} {A : Option Addr} {len cap : Nat} {D : DataW H} {ps : List MemPlace} (hu : P.underlying T = some (.slice e)) (hc : P.cellsOf e = d.sz)
    (hel : ∀ (n : Nat) (cs : List Value) y, DataW.trod enc P w base spare held n e cs = some y → ∃ x, d.K w x cs ∧ good x) (h : DataW.Trod enc P w base spare held T (.slice A len cap) D ps)
    {ts : List TypeId} {ds : List (DataW H)} {j B : Nat} (hsz : (DataW.weightsEach P ts ds).all (· ≤ reachBytes) = true) (ht : ts[j]? = some T) (hd : ds[j]? = some D) (hB : P.bytesOf e = B) :
    ∃ l : List α, len = l.length ∧ l.length ≤ cap ∧ d.C w A l.length l ∧ (∀ x, x ∈ l → good x) ∧ l.length * B ≤ 140737488351232 := by
  obtain ⟨fuel, hf⟩ := h
  rcases open_slice hu hf with ⟨hcs, _⟩ | ⟨a, len', cap', m, n, D', Pl, hcs, _, hl, hm, hmm, hx, hi⟩
  · simp [Value.cells] at hcs
    obtain ⟨rfl, rfl, rfl⟩ := hcs
    refine ⟨[], rfl, Nat.le_refl _, ⟨rfl, Nat.zero_le _, fun h => absurd h (by simp)⟩, ?_, ?_⟩
    · intro x hx
      cases hx
    · simp
  · simp [Value.cells] at hcs
    obtain ⟨rfl, rfl, rfl⟩ := hcs
    have hlm : len ≤ m := by
      rw [hmm]
      split
      · exact hl
      · exact Nat.le_refl _
    have hch : ∀ i : Nat, ∃ x : Option α, i < len → ∃ x' cs, x = some x' ∧ d.K w x' cs ∧ good x' ∧ ∀ q u, cs[q]? = some u → w.cell? (a.add (i * d.sz + q)) = some u := by
      intro i
      by_cases hlt : i < len
      · obtain ⟨cs, h1, h2⟩ := hi i (by omega)
        obtain ⟨x, hx1, hx2⟩ := hel _ _ _ h2
        obtain ⟨_, hlen, hcell⟩ := World.cells?_some h1
        refine ⟨some x, fun _ => ⟨x, cs, rfl, hx1, hx2, fun q u hq => ?_⟩⟩
        have hq' : q < P.cellsOf e := by
          have := (List.getElem?_eq_some_iff.1 hq).1
          omega
        have := hcell q hq'
        rw [Go.Deep.add_add, hc] at this
        rw [this, hq]
      · exact ⟨none, fun h => absurd h hlt⟩
    obtain ⟨f, hf'⟩ : ∃ f : Nat → Option α, ∀ i, i < len → ∃ x' cs, f i = some x' ∧ d.K w x' cs ∧ good x' ∧ ∀ q u, cs[q]? = some u → w.cell? (a.add (i * d.sz + q)) = some u := ⟨fun i => (hch i).choose, fun i => (hch i).choose_spec⟩
    obtain ⟨l, hl1, hl2⟩ : ∃ l : List α, l.length = len ∧ ∀ i, i < len → ∃ x' cs, l[i]? = some x' ∧ d.K w x' cs ∧ good x' ∧ ∀ q u, cs[q]? = some u → w.cell? (a.add (i * d.sz + q)) = some u := by
      clear hf hx hsz hd hmm hlm hi hch hl hm
      induction len with
      | zero => exact ⟨[], rfl, fun i hi => by omega⟩
      | succ len ih =>
        obtain ⟨l, h1, h2⟩ := ih (fun i hi => hf' i (by omega))
        obtain ⟨x, cs, e1, e2, e3, e4⟩ := hf' len (by omega)
        refine ⟨l ++ [x], by simp [h1], fun i hi => ?_⟩
        by_cases hlt : i < len
        · obtain ⟨x', cs', g1, g2, g3, g4⟩ := h2 i hlt
          exact ⟨x', cs', by rw [List.getElem?_append_left (by omega)]; exact g1, g2, g3, g4⟩
        · have : i = len := by omega
          subst this
          exact ⟨x, cs, by rw [← h1]; simp, e2, e3, e4⟩
    have hz := sized_slice hsz ht (hd.trans (by rw [show D = _ from (Prod.mk.inj hx).1])) hu
    rw [hB] at hz
    simp only [List.length_map, List.length_range] at hz
    have hB2 : len * B ≤ 140737488351232 := by
      have e1 : len * B ≤ (len + (m - len)) * B := Nat.mul_le_mul_right _ (by omega)
      exact Nat.le_trans e1 hz
    subst hl1
    refine ⟨l, rfl, hl, ⟨rfl, by unfold maxLen at hm; omega, fun hn => ⟨a, rfl, fun j p hp => ?_⟩⟩, fun x hx' => ?_, hB2⟩
    · have hj := (List.getElem?_eq_some_iff.1 hp).1
      obtain ⟨x', cs, g1, g2, g3, g4⟩ := hl2 j hj
      rw [hp] at g1
      obtain rfl := Option.some.inj g1
      exact ⟨cs, d.K_len g2, g2, g4⟩
    · obtain ⟨i, hi', rfl⟩ := List.getElem_of_mem hx'
      obtain ⟨x', cs, g1, g2, g3, g4⟩ := hl2 i hi'
      rw [List.getElem?_eq_getElem hi'] at g1
      obtain rfl := Option.some.inj g1
      exact g3
end
end Go.Proofs.Ytcldldmedphcfaa.C
