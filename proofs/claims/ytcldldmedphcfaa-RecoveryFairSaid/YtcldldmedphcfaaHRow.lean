import Derived.Test.YtcldldmedphcfaaAWords
import Derived.Shelf.SlSortCmp.WholeK
/- A row of the call's own in the words of the printed contracts, and in those of the sort's contract: from the one to the other and back. Condition: an element's cells are a function of it. -/
namespace Go.Proofs.Ytcldldmedphcfaa.C
open Go.RowKit Go.Proofs.YtcldldmedphcfaaW.PrintWords Go.Proofs.YtcldldmedphcfaaW.PrintLast Go.Proofs.YtcldldmedphcfaaW.PrintMore Go.Sort
section
variable {α : Type} [Inhabited α] {d : Kd α} {enc : α → List Value} {e : Nat} {w : World} {base : Nat} {ok : Nat → Prop} {g cap : Nat} {xs : List α}
theorem reps_cells (hK : ∀ w base ok x cs, d.M w base ok x cs → cs = enc x) (hk : ∀ x, (enc x).length = d.sz) {ok' : Nat → Prop} {inner : List Value} (h : Reps (d.M w base ok') d.sz xs inner) (j : Nat) (hj : j < xs.length * d.sz) :
    inner[j]? = some (flatK enc d.sz xs.toArray)[j]! := by
  have h0 : 0 < d.sz := by rcases Nat.eq_zero_or_pos d.sz with h | h; · rw [h] at hj; omega
                           · exact h
  have hq : j / d.sz < xs.length := Nat.div_lt_of_lt_mul (by rw [Nat.mul_comm]; exact hj)
  have hc := hK _ _ _ _ _ (h.2 (j / d.sz) xs[j / d.sz] (List.getElem?_eq_getElem hq))
  rw [get_flatK _ _ _ _ (by simpa using hj)]
  have hm := Nat.mod_lt j h0
  have e1 : j / d.sz * d.sz + j % d.sz = j := Nat.div_add_mod' j d.sz
  have e2 : ((inner.drop (j / d.sz * d.sz)).take d.sz)[j % d.sz]? = inner[j]? := by
    rw [List.getElem?_take_of_lt hm, List.getElem?_drop, e1]
  rw [← e2, hc]
  have e3 : xs.toArray[j / d.sz]! = xs[j / d.sz] := by simp [hq]
  rw [e3, List.getElem?_eq_getElem (by rw [hk]; exact hm)]
  congr 1
  rw [List.getElem!_eq_getElem?_getD, List.getElem?_eq_getElem (by rw [hk]; exact hm)]
  rfl
theorem row_holds (hK : ∀ w base ok x cs, d.M w base ok x cs → cs = enc x) (hk : ∀ x, (enc x).length = d.sz) (h : d.R e w base ok (.slice (some ⟨g, 0, none⟩) xs.length cap) xs) :
    HoldsK enc d.sz w g 0 xs.toArray ∧ g < w.heap.size := by
  obtain ⟨h0, inner, ⟨hl, ho⟩, hr⟩ := h
  rcases ho with ⟨hv, _⟩ | ⟨g', cap', cur, hv, hb, hh, hn, hcm, hcs, ht⟩
  · cases hv
  · injection hv with hv1 hv2 hv3
    injection hv1 with hv1
    injection hv1 with hv1
    subst hv1 hv3
    refine ⟨fun j hj => ?_, (Array.getElem?_eq_some_iff.1 hh).1⟩
    have hj' : j < xs.length * d.sz := by simpa using hj
    have hc := reps_cells hK hk hr j hj'
    refine ⟨?_, ?_⟩
    · rw [Nat.zero_add]
      have := cell_of_row w g j cur e (0, 0) hh
      rw [this]
      show cur[j]? = some (flatK enc d.sz xs.toArray)[j]!
      rw [← hc, ← ht, List.getElem?_take_of_lt hj', Array.getElem?_toList]
    · rw [Nat.zero_add]
      exact blk_frozen hh j
theorem flat_take (hk : ∀ x, (enc x).length = d.sz) (h0 : 0 < d.sz) (d' : Array α) (j : Nat) (p : α) (hp : d'.toList[j]? = some p) : ((flatK enc d.sz d').toList.drop (j * d.sz)).take d.sz = enc p := by
  have hj : j < d'.size := by
    have := (List.getElem?_eq_some_iff.1 hp).1
    simpa using this
  have hle : j * d.sz + d.sz ≤ d'.size * d.sz := by
    have := Nat.mul_le_mul_right d.sz (show j + 1 ≤ d'.size from hj)
    rwa [Nat.add_mul, Nat.one_mul] at this
  apply List.ext_getElem?
  intro i
  by_cases hi : i < d.sz
  · rw [List.getElem?_take_of_lt hi, List.getElem?_drop, Array.getElem?_toList]
    have hlt : j * d.sz + i < d'.size * d.sz := by omega
    have e1 : (j * d.sz + i) / d.sz = j := (blk_iff d.sz j _ h0).1 ⟨by omega, by omega⟩
    have e2 : (j * d.sz + i) % d.sz = i := by rw [Nat.mod_eq_sub_div_mul, e1]; omega
    have e3 : d'[j]! = p := by
      rw [getElem!_pos d' j hj]
      have := hp
      rw [Array.getElem?_toList, Array.getElem?_eq_getElem hj] at this
      exact Option.some.inj this
    have hs : j * d.sz + i < (flatK enc d.sz d').size := by simpa using hlt
    have := get_flatK enc d.sz d' _ hlt
    rw [getElem!_pos (flatK enc d.sz d') (j * d.sz + i) hs, e1, e2, e3] at this
    rw [Array.getElem?_eq_getElem hs, this, List.getElem!_eq_getElem?_getD, List.getElem?_eq_getElem (by rw [hk]; exact hi)]
    rfl
  · rw [List.getElem?_eq_none (by rw [List.length_take]; omega), List.getElem?_eq_none (by rw [hk]; omega)]
theorem row_sorted (hM : ∀ w base ok x cs, cs = enc x → d.M w base ok x cs) (hk : ∀ x, (enc x).length = d.sz) (h0 : 0 < d.sz) (h : d.R e w base ok (.slice (some ⟨g, 0, none⟩) xs.length cap) xs) (n : Nat) (d' : Array α) (os : Array Obj) (hs : d'.size = xs.length) :
    d.R e (sortWorldK enc d.sz w g 0 n d' os) base ok (.slice (some ⟨g, 0, none⟩) d'.toList.length cap) d'.toList ∧ w.grownBy (sortWorldK enc d.sz w g 0 n d' os) (some g) := by
  obtain ⟨hok, inner, ⟨hl, ho⟩, hr⟩ := h
  rcases ho with ⟨hv, _⟩ | ⟨g', cap', cur, hv, hb, hh, hn, hcm, hcs, ht⟩
  · cases hv
  · injection hv with hv1 hv2 hv3
    injection hv1 with hv1
    injection hv1 with hv1
    subst hv1 hv3
    have hg := (Array.getElem?_eq_some_iff.1 hh).1
    have hlen : d'.toList.length = xs.length := by simpa using hs
    have hheap : (sortWorldK enc d.sz w g 0 n d' os).heap[g]? = some (.cells (putCells id 0 (flatK enc d.sz d') cur) e (0, 0)) := by
      show ((w.heap.modify g (onCells (putCells id 0 (flatK enc d.sz d')))) ++ os)[g]? = _
      rw [Array.getElem?_append_left (by simpa using hg), Array.getElem?_modify, if_pos rfl, hh]
      rfl
    have hle : d'.size * d.sz ≤ cap * d.sz := Nat.mul_le_mul_right _ (by omega)
    constructor
    · refine ⟨fun k hk' => hok k (by simpa [Value.ownBlock] using hk'), (flatK enc d.sz d').toList, ⟨by simp, Or.inr ⟨g, cap, _, rfl, hb, hheap, by omega, hcm, by simpa [putCells] using hcs, ?_⟩⟩, ?_⟩
      · apply List.ext_getElem?
        intro i
        by_cases hi : i < d'.toList.length * d.sz
        · have hi' : i < d'.size * d.sz := by simpa using hi
          rw [List.getElem?_take_of_lt hi, Array.getElem?_toList, Array.getElem?_toList]
          simp only [putCells, Array.getElem?_mapIdx]
          rw [Array.getElem?_eq_getElem (show i < cur.size by omega), Array.getElem?_eq_getElem (show i < (flatK enc d.sz d').size by simpa using hi')]
          simp only [Option.map_some]
          rw [if_pos ⟨by omega, by simpa using hi'⟩, Nat.sub_zero, getElem!_pos _ i (by simpa using hi')]
          rfl
        · rw [List.getElem?_eq_none (by rw [List.length_take]; omega), List.getElem?_eq_none (by simpa using hi)]
      · exact ⟨by simp, fun j p hp => hM _ _ _ _ _ (flat_take hk h0 d' j p hp)⟩
    · refine ⟨rfl, rfl, rfl, ?_, ?_⟩
      · show w.heap.size ≤ ((w.heap.modify g _) ++ os).size
        simp
      · intro k hk1 hk2
        show ((w.heap.modify g _) ++ os)[k]? = _
        rw [Array.getElem?_append_left (by simpa using hk1), Array.getElem?_modify, if_neg (fun e => hk2 (by rw [e]))]
end
end Go.Proofs.Ytcldldmedphcfaa.C
