import Derived.Test.YthbonailomfjlaaHOpen
/- What an element of whole numbers reads as: an array of three, a struct of two. Condition: what the row's reading gives. -/
namespace Go.Proofs.Ythbonailomfjlaa.C
open Go.RowKit Go.Proofs.YthbonailomfjlaaW.PrintWords Go.Proofs.YthbonailomfjlaaW.PrintLast Go.Proofs.YthbonailomfjlaaW.PrintMore Go.Deep Go.ChangeShapes Go.WideShapes
section
variable {H : Type} {enc : TypeId × Value → H} {w : World} {base : Nat} {spare : Nat → Bool} {held : Bool}
theorem el_int (n : Nat) (cs : List Value) (y : DataW H × List MemPlace) (h : DataW.trod enc Try.prog w base spare held n 3 cs = some y) : ∃ x, (Kd.int .i64).K w x cs ∧ I64 x := by
  obtain ⟨a, rfl, _, hw⟩ := DataW.trod_int Try.underlying3 h
  exact ⟨a, rfl, i64_of_wf hw⟩
theorem one_int {n : Nat} {cs : List Value} {q : Option (DataW H × List MemPlace)} (hq : q.isSome = true) (h : DataW.trod enc Try.prog w base spare held n 3 cs = q) : ∃ a : Int, cs = [.int .i64 a] ∧ I64 a := by
  cases q with
  | none => cases hq
  | some y =>
    obtain ⟨a, rfl, _, hw⟩ := DataW.trod_int Try.underlying3 h
    exact ⟨a, rfl, i64_of_wf hw⟩
theorem cells60 : Try.prog.cellsOf 60 = 3 := by kernel_rfl
theorem cells48 : Try.prog.cellsOf 48 = 2 := by kernel_rfl
theorem cells32 : Try.prog.cellsOf 32 = 2 := by kernel_rfl
theorem cells3 : Try.prog.cellsOf 3 = 1 := by kernel_rfl
theorem el60 (n : Nat) (cs : List Value) (y : DataW H × List MemPlace) (h : DataW.trod enc Try.prog w base spare held n 60 cs = some y) : ∃ x, k60.K w x cs ∧ (I64 x.f0 ∧ I64 x.f1 ∧ I64 x.f2) := by
  obtain ⟨xs, m, _, _, hl, hn, hx⟩ := DataW.trod_array Try.underlying60 h
  rw [cells60] at hl
  rw [cells3] at hx
  match cs, hl with
  | [c0, c1, c2], _ =>
    obtain ⟨a, e0, ha⟩ := one_int (by rw [List.getElem?_eq_getElem (by omega)]; rfl) (hx 0 (by omega))
    obtain ⟨b, e1, hb⟩ := one_int (by rw [List.getElem?_eq_getElem (by omega)]; rfl) (hx 1 (by omega))
    obtain ⟨c, e2, hc⟩ := one_int (by rw [List.getElem?_eq_getElem (by omega)]; rfl) (hx 2 (by omega))
    simp at e0 e1 e2
    subst e0 e1 e2
    exact ⟨⟨a, b, c⟩, k60_mk w ⟨a, b, c⟩, ha, hb, hc⟩
theorem el48 (n : Nat) (cs : List Value) (y : DataW H × List MemPlace) (h : DataW.trod enc Try.prog w base spare held n 48 cs = some y) : ∃ a b : Int, cs = [.int .i64 a, .int .i64 b] ∧ I64 a ∧ I64 b := by
  obtain ⟨xs, m, _, _, hl, hn, hx⟩ := DataW.trod_array Try.underlying48 h
  rw [cells48] at hl
  rw [cells3] at hx
  match cs, hl with
  | [c0, c1], _ =>
    obtain ⟨a, e0, ha⟩ := one_int (by rw [List.getElem?_eq_getElem (by omega)]; rfl) (hx 0 (by omega))
    obtain ⟨b, e1, hb⟩ := one_int (by rw [List.getElem?_eq_getElem (by omega)]; rfl) (hx 1 (by omega))
    simp at e0 e1
    subst e0 e1
    exact ⟨a, b, rfl, ha, hb⟩
theorem el32 (n : Nat) (cs : List Value) (y : DataW H × List MemPlace) (h : DataW.trod enc Try.prog w base spare held n 32 cs = some y) : ∃ x, k32.K w x cs ∧ (I64 x.f0 ∧ I64 x.f1) := by
  obtain ⟨xs, m, _, _, hl, hn, hx⟩ := DataW.trod_struct Try.underlying32 h
  rw [cells32] at hl
  match cs, hl with
  | [c0, c1], _ =>
    have hn2 : xs.length = 2 := hn
    have h0 : DataW.trod enc Try.prog w base spare held m 3 (List.take (Try.prog.cellsOf 3) (List.drop 0 [c0, c1])) = xs[0]? := hx 0 _ rfl
    have h1 : DataW.trod enc Try.prog w base spare held m 3 (List.take (Try.prog.cellsOf 3) (List.drop 1 [c0, c1])) = xs[1]? := hx 1 _ rfl
    rw [cells3] at h0 h1
    obtain ⟨a, e0, ha⟩ := one_int (by rw [List.getElem?_eq_getElem (by omega)]; rfl) h0
    obtain ⟨b, e1, hb⟩ := one_int (by rw [List.getElem?_eq_getElem (by omega)]; rfl) h1
    simp at e0 e1
    subst e0 e1
    exact ⟨⟨a, b⟩, k32_mk w ⟨a, b⟩, ha, hb⟩
end
end Go.Proofs.Ythbonailomfjlaa.C
