import Derived.Test.YtcldldmedphcfaaHOrder
/- The contract of slices.SortFunc at attempts, by the shelf's contract. Condition: fewer than 1000 attempts. -/
namespace Go.Proofs.Ytcldldmedphcfaa.C
open Go.RowKit Go.Proofs.YtcldldmedphcfaaW.PrintWords Go.Proofs.YtcldldmedphcfaaW.PrintLast Go.Proofs.YtcldldmedphcfaaW.PrintMore Go.Sort Go.Shelf
theorem cmpLaysAtt (blk off size : Nat) (w : World) : CmpLays Try.prog 54 #[] encAtt 3 cmpAtt blk off size w := fun _ _ _ _ x y => closure54 x y _
/-- The edges as the sort lays them. -/
def sortAtts (l : List S60) : List S60 := (Sort.pdq (ltOf cmpAtt) l.toArray 0 l.length (Lib.bitLen l.length) true true).toList
theorem sortAtts_perm (l : List S60) : (sortAtts l).Perm l ∧ (sortAtts l).length = l.length := by
  have h := (pdq_sorts (ltOf cmpAtt) swoAtt l.toArray 0 l.length (Lib.bitLen l.length) true true (Nat.zero_le _) (by simp) (Or.inl rfl)).1
  obtain ⟨hs, _, hp⟩ := h
  have e1 : (l.toArray.extract 0 l.length).toList = l := by simp
  have e2 : ((Sort.pdq (ltOf cmpAtt) l.toArray 0 l.length (Lib.bitLen l.length) true true).extract 0 l.length).toList = sortAtts l := by
    unfold sortAtts
    have hs' : (Sort.pdq (ltOf cmpAtt) l.toArray 0 l.length (Lib.bitLen l.length) true true).size = l.length := by rw [hs]; simp
    generalize Sort.pdq (ltOf cmpAtt) l.toArray 0 l.length (Lib.bitLen l.length) true true = q at hs' ⊢
    rw [← hs']
    simp
  rw [e1, e2] at hp
  exact ⟨hp, hp.length_eq⟩
theorem sortAtts_sorted (l : List S60) (i j : Nat) (hij : i < j) (hj : j < l.length) : ¬ ((rd_T60 (sortAtts l) j).f1 < (rd_T60 (sortAtts l) i).f1 ∨ (rd_T60 (sortAtts l) j).f1 = (rd_T60 (sortAtts l) i).f1 ∧ (rd_T60 (sortAtts l) j).f0 < (rd_T60 (sortAtts l) i).f0) := by
  have h := pdq_sorts (ltOf cmpAtt) swoAtt l.toArray 0 l.length (Lib.bitLen l.length) true true (Nat.zero_le _) (by simp) (Or.inl rfl)
  have hs : (Sort.pdq (ltOf cmpAtt) l.toArray 0 l.length (Lib.bitLen l.length) true true).size = l.length := by rw [h.1.1]; simp
  have h2 := h.2 i j (Nat.zero_le _) hij hj
  rw [ltAtt] at h2
  simp only [decide_eq_false_iff_not] at h2
  have e : ∀ q, q < l.length → rd_T60 (sortAtts l) (q : Int) = (Sort.pdq (ltOf cmpAtt) l.toArray 0 l.length (Lib.bitLen l.length) true true)[q]! := by
    intro q hq
    unfold rd_T60 sortAtts
    rw [show (q : Int).toNat = q by omega, List.getD_eq_getElem?_getD, Array.getElem?_toList, Array.getElem?_eq_getElem (by omega), getElem!_pos _ q (by omega)]
    rfl
  rw [e i (by omega), e j hj]
  exact h2
/-- Of fewer than 1000 edges. -/
def sort_attempts_63.f (l : List S60) : Option (List S60) := if l.length < 1000 then some (sortAtts l) else none
set_option maxHeartbeats 1000000 in
theorem sort_attempts_63.calls (P0_ : Nat → Prop) (u : Value) (l0 r : List S60) (w0 w : World) (hB : Below w0.heap.size w0 w) (ho0 : Kd.R k60 60 w w0.heap.size P0_ u l0) (h : sort_attempts_63.f l0 = some r) :
    Calls Try.prog 63 #[u, .func (.func 54) #[] #[]] w fun e w' => e = .returned (.tuple #[]) ∧ Kd.R k60 60 w' w0.heap.size (fun k_ => P0_ k_ ∨ w.heap.size ≤ k_) u r ∧ Below w0.heap.size w0 w' ∧ Kept w w' (fun k_ => P0_ k_) := by
  have hl : l0.length < 1000 ∧ sortAtts l0 = r := by
    unfold sort_attempts_63.f at h
    by_cases c : l0.length < 1000
    · rw [if_pos c] at h; exact ⟨c, Option.some.inj h⟩
    · rw [if_neg c] at h; cases h
  obtain ⟨hlen, rfl⟩ := hl
  have hK : ∀ w base ok x cs, k60.M w base ok x cs → cs = encAtt x := fun _ _ _ _ _ h => k60_openM h
  have hM : ∀ w base ok x cs, cs = encAtt x → k60.M w base ok x cs := fun w base ok x cs h => h ▸ k60_mkM w base ok x
  have hk : ∀ x, (encAtt x).length = k60.sz := fun _ => rfl
  have hperm := sortAtts_perm l0
  obtain ⟨A, c, hu⟩ := Kd.R_slice ho0
  by_cases hn : l0 = []
  · subst hn
    have e : sortAtts [] = [] := List.eq_nil_of_length_eq_zero hperm.2
    rw [e, hu]
    refine (AnyF.slices_SortFunc_none Try.sortAttempts A c _ w).mono ?_
    rintro e w' ⟨rfl, rfl⟩
    refine ⟨rfl, Kd.R_mono (by rw [← hu]; exact ho0) (fun _ hk => Or.inl hk), hB, Nat.le_refl _, fun _ _ _ => rfl⟩
  · obtain ⟨g, rfl⟩ : ∃ g, A = some ⟨g, 0, none⟩ := by
      obtain ⟨_, inner, ⟨_, ho⟩, _⟩ := ho0
      rcases ho with ⟨hv, hz⟩ | ⟨g, cap, cur, hv, _⟩
      · exact absurd (List.eq_nil_of_length_eq_zero hz) hn
      · rw [hu] at hv
        injection hv with hv
        exact ⟨g, hv⟩
    subst hu
    obtain ⟨hH, hg⟩ := row_holds hK hk ho0
    have eg : ∀ args w, (callFunc 54 args).run Try.prog w = .ok (.enter 54 args) w := enters_of Try.func54 (by kernel_rfl) rfl
    have hcon := AnyQ.slices_SortFunc_eq Try.sortAttempts 3 Try.isAgg60 Try.sizeOf60 encAtt (fun _ => rfl) (fun x v hv => by simp [encAtt] at hv; rcases hv with rfl | rfl | rfl <;> rfl) cmpAtt swoAtt 54 #[] g 0 c l0.toArray w eg (cmpLaysAtt g 0 _ w) hH hg (by simp; omega)
    have hcon' : Calls Try.prog 63 #[.slice (some ⟨g, 0, none⟩) l0.length c, .func (.func 54) #[] #[]] w fun e w' => e = .returned (.tuple #[]) ∧ ∃ n os, w' = sortWorldK encAtt 3 w g 0 n (sortAtts l0).toArray os := by
      have e : l0.toArray.size = l0.length := by simp
      rw [e] at hcon
      unfold sortAtts
      rw [Array.toArray_toList]
      exact hcon
    refine hcon'.mono ?_
    rintro e w' ⟨rfl, n, os, rfl⟩
    have hr := row_sorted hM hk (by decide) ho0 n (sortAtts l0).toArray os (by simpa using hperm.2)
    have hgr := hr.2
    have hR := hr.1
    rw [List.toList_toArray, hperm.2] at hR
    have hown : ∀ k, (Value.slice (some ⟨g, 0, none⟩) l0.length c).ownBlock = some k → P0_ k := ho0.1
    have hbase : w0.heap.size ≤ g := by
      obtain ⟨_, inner, ho, _⟩ := ho0
      exact own_base ho g rfl
    refine ⟨rfl, Kd.R_mono hR (fun _ hk => Or.inl hk), hB.grown hgr hB.size (fun k hk => by cases hk; exact hbase), hgr.size, fun i hi hP => hgr.block i hi (fun e => hP ?_)⟩
    cases e
    exact hown _ rfl
end Go.Proofs.Ytcldldmedphcfaa.C
