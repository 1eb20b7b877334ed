import Derived.Test.YtcldldmedphcfaaHOrder
import Derived.Shelf.SlSortCmp.NoneTotal
/- The contract of slices.SortFunc at whole numbers with cmp.Compare, by the shelf's contract. Condition: fewer than 1000 numbers. -/
namespace Go.Proofs.Ytcldldmedphcfaa.C
open Go.RowKit Go.Proofs.YtcldldmedphcfaaW.PrintWords Go.Proofs.YtcldldmedphcfaaW.PrintLast Go.Proofs.YtcldldmedphcfaaW.PrintMore Go.Sort Go.Shelf
set_option linter.unusedVariables false
def encI (x : Int) : Value := .int .i64 x
def encI1 (x : Int) : List Value := [.int .i64 x]
theorem flat_encI (d : Array Int) : flatK encI1 1 d = d.map encI := by
  apply Array.ext
  · simp
  · intro i h1 h2
    have hi : i < d.size := by simpa using h2
    rw [Array.getElem_map, ← getElem!_pos (flatK encI1 1 d) i h1, get_flatK _ _ _ _ (by simpa using h1)]
    rw [Nat.div_one, Nat.mod_one, getElem!_pos d i hi]
    rfl
theorem putRow_encI (w : World) (blk off : Nat) (d : Array Int) : putRow encI w blk off d = putRow id w blk off (d.map encI) := by
  unfold putRow
  congr 1
  funext c
  unfold putCells
  congr 1
  funext k x
  simp only [Array.size_map]
  by_cases h : off ≤ k ∧ k < off + d.size
  · rw [if_pos h, if_pos h, getElem!_pos d (k - off) (by omega), getElem!_pos (d.map encI) (k - off) (by rw [Array.size_map]; omega), Array.getElem_map]
    rfl
  · rw [if_neg h, if_neg h]
theorem sortWorld_encI (w : World) (blk off m : Nat) (d : Array Int) (os : Array Obj) : sortWorld encI w blk off m d os = sortWorldK encI1 1 w blk off m d os := by
  unfold sortWorld sortWorldK putRowK
  rw [putRow_encI, flat_encI]
theorem holds_encI {w : World} {blk off : Nat} {d : Array Int} (h : HoldsK encI1 1 w blk off d) : Holds encI w blk off d := by
  unfold HoldsK at h
  rw [flat_encI] at h
  intro j hj
  have := h j (by rw [Array.size_map]; exact hj)
  rw [getElem!_pos (d.map encI) j (by rw [Array.size_map]; exact hj), Array.getElem_map] at this
  rw [getElem!_pos d j hj]
  exact this
theorem ltI (x y : Int) : ltOf cmpI x y = decide (x < y) := by
  unfold ltOf cmpI
  rcases Int.lt_trichotomy x y with h | h | h
  · rw [if_pos h, decide_eq_true h]
    rfl
  · subst h
    simp
  · rw [if_neg (by omega), if_pos h, decide_eq_false (show ¬ x < y by omega)]
    rfl
theorem swoI : SWO (ltOf cmpI) where
  irrefl x := by rw [ltI]; simp
  trans x y z h1 h2 := by rw [ltI] at *; simp at *; omega
  ntrans x y z h1 h2 := by rw [ltI] at *; simp at *; omega
theorem cmpLaysI (blk off size : Nat) (w : World) : CmpLays1 Try.prog 45 #[] encI cmpI blk off size w := fun m os dk _ x y =>
  (compare45 x y _).mono fun e w' ⟨he, hw⟩ => ⟨he, 0, #[], by rw [← hw]; simp [grow, World.drewN]⟩
/-- Whole numbers as the sort lays them. -/
def sortInts (l : List Int) : List Int := l.mergeSort fun x y => !(ltOf cmpI) y x
theorem sortInts_perm (l : List Int) : (sortInts l).Perm l := List.mergeSort_perm l _
set_option maxHeartbeats 1000000 in
theorem sort_ints_58.calls (u : Value) (l0 : List Int) (w0 w : World) (hB : Below w0.heap.size w0 w) (ho0 : Kd.R (Kd.int .i64) 3 w w0.heap.size (fun _ => True) u l0) (hlen : l0.length < 1000) :
    Calls Try.prog 58 #[u, .func (.func 45) #[] #[]] w fun e w' => e = .returned (.tuple #[]) ∧ Kd.R (Kd.int .i64) 3 w' w0.heap.size (fun _ => True) u (sortInts l0) ∧ Below w0.heap.size w0 w' := by
  have hK : ∀ w base ok x cs, (Kd.int .i64).M w base ok x cs → cs = encI1 x := fun _ _ _ _ _ h => h
  have hM : ∀ w base ok x cs, cs = encI1 x → (Kd.int .i64).M w base ok x cs := fun w base ok x cs h => h
  have hk : ∀ x, (encI1 x).length = (Kd.int .i64).sz := fun _ => rfl
  have hperm := (sortInts_perm l0).length_eq
  obtain ⟨A, c, hu⟩ := Kd.R_slice ho0
  by_cases hn : l0 = []
  · subst hn
    have e : sortInts [] = [] := List.eq_nil_of_length_eq_zero hperm
    rw [e, hu]
    refine (AnyF.slices_SortFunc_none (P := Try.prog) (ρ := Try.sortInts_ren) { Try.sortInts with } A c _ w).mono ?_
    rintro e w' ⟨rfl, rfl⟩
    exact ⟨rfl, by rw [← hu]; exact ho0, hB⟩
  · obtain ⟨g, rfl⟩ : ∃ g, A = some ⟨g, 0, none⟩ := by
      obtain ⟨_, inner, ⟨_, ho⟩, _⟩ := ho0
      rcases ho with ⟨hv, hz⟩ | ⟨g, cap, cur, hv, _⟩
      · exact absurd (List.eq_nil_of_length_eq_zero hz) hn
      · rw [hu] at hv
        injection hv with hv
        exact ⟨g, hv⟩
    subst hu
    obtain ⟨hH, hg⟩ := row_holds hK hk ho0
    have eg : ∀ args w, (callFunc 45 args).run Try.prog w = .ok (.enter 45 args) w := enters_of Try.func45 (by kernel_rfl) rfl
    have hT : ∀ x y, (ltOf cmpI) x y = false → (ltOf cmpI) y x = false → x = y := by
      intro x y h1 h2
      rw [ltI] at h1 h2
      simp at h1 h2
      omega
    have hcon := Any.slices_SortFunc_total Try.sortInts encI (fun _ => rfl) cmpI swoI 45 #[] g 0 c l0.toArray w eg (cmpLaysI g 0 _ w) (holds_encI hH) hg (by simp; omega) hT
    have hcon' : Calls Try.prog 58 #[.slice (some ⟨g, 0, none⟩) l0.length c, .func (.func 45) #[] #[]] w fun e w' => e = .returned (.tuple #[]) ∧ ∃ n os, w' = sortWorldK encI1 1 w g 0 n (sortInts l0).toArray os := by
      have e : l0.toArray.size = l0.length := by simp
      rw [e] at hcon
      refine Calls.mono hcon ?_
      rintro e w' ⟨h1, n, os, h2⟩
      exact ⟨h1, n, os, by rw [h2, sortWorld_encI]; rfl⟩
    refine hcon'.mono ?_
    rintro e w' ⟨rfl, n, os, rfl⟩
    have hr := row_sorted hM hk (by decide) ho0 n (sortInts l0).toArray os (by simpa using hperm)
    have hgr := hr.2
    have hR := hr.1
    rw [List.toList_toArray, hperm] at hR
    have hbase : w0.heap.size ≤ g := by
      obtain ⟨_, inner, ho, _⟩ := ho0
      exact own_base ho g rfl
    exact ⟨rfl, hR, hB.grown hgr hB.size (fun k hk => by cases hk; exact hbase)⟩
end Go.Proofs.Ytcldldmedphcfaa.C
