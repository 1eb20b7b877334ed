import Derived.Test.YthbonailomfjlaaCKinds
import Derived.Test.YthbonailomfjlaaHRow
import Derived.Test.YthbonailomfjlaaShelf
import Derived.Shelf.SlSortCmp.NoneTotal
/- The contract of slices.SortFunc at the edges of spells, by the shelf's contract: the row holds just what Go's own text makes of it. Condition: fewer than 2^62 edges. -/
namespace Go.Proofs.Ythbonailomfjlaa.C
open Go.RowKit Go.Proofs.YthbonailomfjlaaW.PrintWords Go.Proofs.YthbonailomfjlaaW.PrintLast Go.Proofs.YthbonailomfjlaaW.PrintMore Go.Sort Go.Shelf
instance : Inhabited S56 := ⟨⟨0, 0⟩⟩
/-- An edge's two cells. -/
def encEdge (x : S56) : List Value := [.int .i64 x.f0, .int .i64 x.f1]
/-- cmp.Compare of the ends. -/
def cmpEdge (x y : S56) : Int := if x.f0 < y.f0 then -1 else if y.f0 < x.f0 then 1 else 0
theorem ltEdge (x y : S56) : ltOf cmpEdge x y = decide (x.f0 < y.f0) := by
  unfold ltOf cmpEdge
  by_cases h1 : x.f0 < y.f0
  · simp [h1]
  · by_cases h2 : y.f0 < x.f0 <;> simp [h1, h2]
theorem swoEdge : SWO (ltOf cmpEdge) where
  irrefl x := by rw [ltEdge]; simp
  trans x y z h1 h2 := by rw [ltEdge] at *; simp at *; omega
  ntrans x y z h1 h2 := by rw [ltEdge] at *; simp at *; omega
set_option maxHeartbeats 1000000 in
theorem compare_any (x y : Int) (w : World) : Calls Try.prog 33 #[.int .i64 x, .int .i64 y] w fun e w' => e = .returned (.int .i64 (if x < y then -1 else if y < x then 1 else 0)) ∧ w = w' := by
  rcases Int.lt_trichotomy x y with h | h | h
  · rw [if_pos h]
    go_enter Try.func33, Try.ntmps33
    go_wp2
    go_ret
    exact ⟨rfl, rfl⟩
  · subst h
    rw [if_neg (by omega), if_neg (by omega)]
    go_enter Try.func33, Try.ntmps33
    go_wp2
    go_ret
    exact ⟨rfl, rfl⟩
  · rw [if_neg (by omega), if_pos h]
    have h' : ¬ x < y := by omega
    go_enter Try.func33, Try.ntmps33
    go_wp2
    go_ret
    exact ⟨rfl, rfl⟩
set_option maxHeartbeats 1000000 in
theorem closure_edge (x y : S56) (W : World) : Calls Try.prog 32 #[.agg (encEdge x).toArray, .agg (encEdge y).toArray] W fun e w' => e = .returned (.int .i64 (cmpEdge x y)) ∧ ∃ q os', w' = grow (W.drewN q) os' := by
  have hcon := fun W' => compare_any x.f0 y.f0 W'
  show Calls Try.prog 32 #[.agg #[.int .i64 x.f0, .int .i64 x.f1], .agg #[.int .i64 y.f0, .int .i64 y.f1]] W _
  have HC := Aside0.mk hcon
  clear hcon
  unfold cmpEdge
  generalize (if x.f0 < y.f0 then (-1 : Int) else if y.f0 < x.f0 then 1 else 0) = r at HC ⊢
  go_enter Try.func32, Try.ntmps32
  go_wp2_with (go_at_call 33; refine (HC.out _).mono ?_; rintro e w' ⟨rfl, rfl⟩)
  go_ret
  exact ⟨rfl, 0, _, by rw [alloc_eq_grow, alloc_eq_grow, grow_grow]; rfl⟩
theorem cmpLaysEdge (blk off size : Nat) (w : World) : CmpLays Try.prog 32 #[] encEdge 2 cmpEdge blk off size w := fun _ _ _ _ x y => closure_edge x y _
/-- The edges as the sort lays them. -/
def sortEdges (l : List S56) : List S56 := (Sort.pdq (ltOf cmpEdge) l.toArray 0 l.length (Lib.bitLen l.length) true true).toList
theorem sortEdges_perm (l : List S56) : (sortEdges l).Perm l ∧ (sortEdges l).length = l.length := by
  have h := (pdq_sorts (ltOf cmpEdge) swoEdge l.toArray 0 l.length (Lib.bitLen l.length) true true (Nat.zero_le _) (by simp) (Or.inl rfl)).1
  obtain ⟨hs, _, hp⟩ := h
  have e1 : (l.toArray.extract 0 l.length).toList = l := by simp
  have e2 : ((Sort.pdq (ltOf cmpEdge) l.toArray 0 l.length (Lib.bitLen l.length) true true).extract 0 l.length).toList = sortEdges l := by
    unfold sortEdges
    have hs' : (Sort.pdq (ltOf cmpEdge) l.toArray 0 l.length (Lib.bitLen l.length) true true).size = l.length := by rw [hs]; simp
    generalize Sort.pdq (ltOf cmpEdge) l.toArray 0 l.length (Lib.bitLen l.length) true true = q at hs' ⊢
    rw [← hs']
    simp
  rw [e1, e2] at hp
  exact ⟨hp, hp.length_eq⟩
theorem sortEdges_sorted (l : List S56) (i j : Nat) (hij : i < j) (hj : j < l.length) : (rd_T56 (sortEdges l) i).f0 ≤ (rd_T56 (sortEdges l) j).f0 := by
  have h := pdq_sorts (ltOf cmpEdge) swoEdge l.toArray 0 l.length (Lib.bitLen l.length) true true (Nat.zero_le _) (by simp) (Or.inl rfl)
  have hs : (Sort.pdq (ltOf cmpEdge) l.toArray 0 l.length (Lib.bitLen l.length) true true).size = l.length := by rw [h.1.1]; simp
  have h2 := h.2 i j (Nat.zero_le _) hij hj
  rw [ltEdge] at h2
  simp only [decide_eq_false_iff_not] at h2
  have e : ∀ q, q < l.length → rd_T56 (sortEdges l) (q : Int) = (Sort.pdq (ltOf cmpEdge) l.toArray 0 l.length (Lib.bitLen l.length) true true)[q]! := by
    intro q hq
    unfold rd_T56 sortEdges
    rw [show (q : Int).toNat = q by omega, List.getD_eq_getElem?_getD, Array.getElem?_toList, Array.getElem?_eq_getElem (by omega), getElem!_pos _ q (by omega)]
    rfl
  rw [e i (by omega), e j hj]
  omega
/-- Of fewer than 1000 edges. -/
def clock_edge_31.f (l : List S56) : Option (List S56) := if l.length < 1000 then some (sortEdges l) else none
set_option maxHeartbeats 1000000 in
theorem clock_edge_31.calls (P0_ : Nat → Prop) (u : Value) (l0 r : List S56) (w0 w : World) (hB : Below w0.heap.size w0 w) (ho0 : Kd.R k56 56 w w0.heap.size P0_ u l0) (h : clock_edge_31.f l0 = some r) :
    Calls Try.prog 31 #[u, .func (.func 32) #[] #[]] w fun e w' => e = .returned (.tuple #[]) ∧ Kd.R k56 56 w' w0.heap.size (fun k_ => P0_ k_ ∨ w.heap.size ≤ k_) u r ∧ Below w0.heap.size w0 w' ∧ Kept w w' (fun k_ => P0_ k_) := by
  have hl : l0.length < 1000 ∧ sortEdges l0 = r := by
    unfold clock_edge_31.f at h
    by_cases c : l0.length < 1000
    · rw [if_pos c] at h; exact ⟨c, Option.some.inj h⟩
    · rw [if_neg c] at h; cases h
  obtain ⟨hlen, rfl⟩ := hl
  have hK : ∀ w base ok x cs, k56.M w base ok x cs → cs = encEdge x := fun _ _ _ _ _ h => k56_openM h
  have hM : ∀ w base ok x cs, cs = encEdge x → k56.M w base ok x cs := fun w base ok x cs h => h ▸ k56_mkM w base ok x
  have hk : ∀ x, (encEdge x).length = k56.sz := fun _ => rfl
  have hperm := sortEdges_perm l0
  obtain ⟨A, c, hu⟩ := Kd.R_slice ho0
  by_cases hn : l0 = []
  · subst hn
    have e : sortEdges [] = [] := List.eq_nil_of_length_eq_zero hperm.2
    rw [e, hu]
    refine (AnyF.slices_SortFunc_none Try.sortEdges A c _ w).mono ?_
    rintro e w' ⟨rfl, rfl⟩
    refine ⟨rfl, Kd.R_mono (by rw [← hu]; exact ho0) (fun _ hk => Or.inl hk), hB, Nat.le_refl _, fun _ _ _ => rfl⟩
  · obtain ⟨g, rfl⟩ : ∃ g, A = some ⟨g, 0, none⟩ := by
      obtain ⟨_, inner, ⟨_, ho⟩, _⟩ := ho0
      rcases ho with ⟨hv, hz⟩ | ⟨g, cap, cur, hv, _⟩
      · exact absurd (List.eq_nil_of_length_eq_zero hz) hn
      · rw [hu] at hv
        injection hv with hv
        exact ⟨g, hv⟩
    subst hu
    obtain ⟨hH, hg⟩ := row_holds hK hk ho0
    have eg : ∀ args w, (callFunc 32 args).run Try.prog w = .ok (.enter 32 args) w := enters_of Try.func32 (by kernel_rfl) rfl
    have hcon := AnyQ.slices_SortFunc_eq Try.sortEdges 2 Try.isAgg56 Try.sizeOf56 encEdge (fun _ => rfl) (fun x v hv => by simp [encEdge] at hv; rcases hv with rfl | rfl <;> rfl) cmpEdge swoEdge 32 #[] g 0 c l0.toArray w eg (cmpLaysEdge g 0 _ w) hH hg (by simp; omega)
    have hcon' : Calls Try.prog 31 #[.slice (some ⟨g, 0, none⟩) l0.length c, .func (.func 32) #[] #[]] w fun e w' => e = .returned (.tuple #[]) ∧ ∃ n os, w' = sortWorldK encEdge 2 w g 0 n (sortEdges l0).toArray os := by
      have e : l0.toArray.size = l0.length := by simp
      rw [e] at hcon
      unfold sortEdges
      rw [Array.toArray_toList]
      exact hcon
    refine hcon'.mono ?_
    rintro e w' ⟨rfl, n, os, rfl⟩
    have hr := row_sorted hM hk (by decide) ho0 n (sortEdges l0).toArray os (by simpa using hperm.2)
    have hgr := hr.2
    have hR := hr.1
    rw [List.toList_toArray, hperm.2] at hR
    have hown : ∀ k, (Value.slice (some ⟨g, 0, none⟩) l0.length c).ownBlock = some k → P0_ k := ho0.1
    have hbase : w0.heap.size ≤ g := by
      obtain ⟨_, inner, ho, _⟩ := ho0
      exact own_base ho g rfl
    refine ⟨rfl, Kd.R_mono hR (fun _ hk => Or.inl hk), hB.grown hgr hB.size (fun k hk => by cases hk; exact hbase), hgr.size, fun i hi hP => hgr.block i hi (fun e => hP ?_)⟩
    cases e
    exact hown _ rfl
end Go.Proofs.Ythbonailomfjlaa.C
