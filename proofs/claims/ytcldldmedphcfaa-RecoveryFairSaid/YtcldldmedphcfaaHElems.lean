import Derived.Test.YtcldldmedphcfaaHOpen2
/- What an element of whole numbers reads as: an int, an array of two. Condition: what the row's reading gives. -/
namespace Go.Proofs.Ytcldldmedphcfaa.C
open Go.RowKit Go.Proofs.YtcldldmedphcfaaW.PrintWords Go.Proofs.YtcldldmedphcfaaW.PrintLast Go.Proofs.YtcldldmedphcfaaW.PrintMore Go.Deep Go.ChangeShapes Go.WideShapes
section
variable {H : Type} {enc : TypeId × Value → H} {w : World} {base : Nat} {spare : Nat → Bool} {held : Bool}
theorem el_int (n : Nat) (cs : List Value) (y : DataW H × List MemPlace) (h : DataW.trod enc Try.prog w base spare held n 3 cs = some y) : ∃ x, (Kd.int .i64).K w x cs ∧ I64 x := by
  obtain ⟨a, rfl, _, hw⟩ := DataW.trod_int Try.underlying3 h
  exact ⟨a, rfl, i64_of_wf hw⟩
theorem one_int {n : Nat} {cs : List Value} {q : Option (DataW H × List MemPlace)} (hq : q.isSome = true) (h : DataW.trod enc Try.prog w base spare held n 3 cs = q) : ∃ a : Int, cs = [.int .i64 a] ∧ I64 a := by
  cases q with
  | none => cases hq
  | some y =>
    obtain ⟨a, rfl, _, hw⟩ := DataW.trod_int Try.underlying3 h
    exact ⟨a, rfl, i64_of_wf hw⟩
theorem cells71 : Try.prog.cellsOf 71 = 2 := by kernel_rfl
theorem cells3 : Try.prog.cellsOf 3 = 1 := by kernel_rfl
theorem el71 (n : Nat) (cs : List Value) (y : DataW H × List MemPlace) (h : DataW.trod enc Try.prog w base spare held n 71 cs = some y) : ∃ x, k71.K w x cs ∧ (I64 x.f0 ∧ I64 x.f1) := by
  obtain ⟨xs, m, _, _, hl, hn, hx⟩ := DataW.trod_array Try.underlying71 h
  rw [cells71] at hl
  rw [cells3] at hx
  match cs, hl with
  | [c0, c1], _ =>
    obtain ⟨a, e0, ha⟩ := one_int (by rw [List.getElem?_eq_getElem (by omega)]; rfl) (hx 0 (by omega))
    obtain ⟨b, e1, hb⟩ := one_int (by rw [List.getElem?_eq_getElem (by omega)]; rfl) (hx 1 (by omega))
    simp at e0 e1
    subst e0 e1
    exact ⟨⟨a, b⟩, k71_mk w ⟨a, b⟩, ha, hb⟩
end
end Go.Proofs.Ytcldldmedphcfaa.C
