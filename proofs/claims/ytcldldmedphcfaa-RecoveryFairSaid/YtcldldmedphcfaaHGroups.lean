import Derived.Test.YtcldldmedphcfaaHMaps
import Derived.Maps.OwnSet
import Derived.Maps.RangeWalk
/- Maps from whole numbers to slices of whole numbers that a call makes, no two of which lie in one row; by hand, over the kit's laws. Condition: none. -/
namespace Go.Proofs.Ytcldldmedphcfaa.C
open Go.RowKit Go.Proofs.YtcldldmedphcfaaW.PrintWords Go.Proofs.YtcldldmedphcfaaW.PrintLast Go.Proofs.YtcldldmedphcfaaW.PrintMore
open Go.WideElems (Fit rd rg pl rd_val)
open Go.ChangeMaps Go.MapKept Go.WideShapes
set_option linter.unusedVariables false
/-- A slice, whatever it holds. -/
def slElem : Value → Option (DataW Unit × List MemPlace)
  | .slice _ _ _ => some (.nil, [])
  | _ => none
theorem zero54 (w : World) : (zeroValue 54).run Try.prog w = .ok (.slice none 0 0) w := by kernel_rfl
theorem slElem_inv {v : Value} {z : DataW Unit × List MemPlace} (h : slElem v = some z) : ∃ A n c, v = .slice A n c ∧ z = (.nil, []) := by
  cases v with
  | slice A n c => exact ⟨A, n, c, rfl, (Option.some.inj h).symm⟩
  | _ => cases h
abbrev kI : Kd Int := Kd.int .i64
/-- A row of whole numbers hangs on its own block alone. -/
theorem RI_step {w w1 : World} {base : Nat} {ok ok' : Nat → Prop} {v : Value} {xs : List Int} (h : Kd.R kI 3 w base ok v xs) (hm : ∀ g, v.ownBlock = some g → w1.heap[g]? = w.heap[g]?) (hok : ∀ g, v.ownBlock = some g → ok' g) : Kd.R kI 3 w1 base ok' v xs := by
  obtain ⟨h0, inner, ho, hr⟩ := h
  refine ⟨hok, inner, ?_, hr.imp_ (fun _ _ hp => hp)⟩
  obtain ⟨hl, ho⟩ := ho
  refine ⟨hl, ?_⟩
  rcases ho with h | ⟨g, cap, cur, hv, hb, hh, hr⟩
  · exact Or.inl h
  · have e := hm g (by rw [hv]; rfl)
    exact Or.inr ⟨g, cap, cur, hv, hb, e.trans hh, hr⟩
theorem RI_lt {w : World} {base : Nat} {ok : Nat → Prop} {v : Value} {xs : List Int} (h : Kd.R kI 3 w base ok v xs) (g : Nat) (hg : v.ownBlock = some g) : g < w.heap.size ∧ ∃ cells, w.heap[g]? = some (.cells cells 3 (0, 0)) := by
  obtain ⟨cells, hc⟩ := Kd.R_typed h g hg
  exact ⟨blk_lt hc, cells, hc⟩
/-- Block b is a map of at most n entries; at the key k it holds a row of its own of the numbers G k, if there are any; each row's block meets av. -/
def GI (w : World) (base b n : Nat) (av : Nat → Prop) (G : Int → List Int) : Prop :=
  ∃ es clock, w.heap[b]? = some (.map es clock) ∧ Fit Try.prog 3 slElem es clock ∧ es.size ≤ n ∧
    (∀ x ∈ es.toList, ∃ k, x.key = .int .i64 k ∧ G k ≠ [] ∧ Kd.R kI 3 w base (fun _ => True) x.val (G k) ∧ ∀ g, x.val.ownBlock = some g → av g) ∧
    (∀ x ∈ es.toList, ∀ y ∈ es.toList, x.key ≠ y.key → ∀ g, x.val.ownBlock = some g → y.val.ownBlock ≠ some g) ∧
    ∀ k, G k ≠ [] → ∃ x ∈ es.toList, x.key = .int .i64 k
/-- What the lists become when the one at k is another. -/
def updG (G : Int → List Int) (k : Int) (zs : List Int) : Int → List Int := fun j => if j = k then zs else G j
theorem GI_made (w : World) (base : Nat) (av : Nat → Prop) : GI (w.alloc (.map #[] 0)) base w.heap.size 0 av (fun _ => []) :=
  ⟨#[], 0, (MapKept.heap_alloc w _).1, ⟨by simp, stamped_empty 0, by simp⟩, Nat.le_refl _, by simp, by simp, fun k h => absurd rfl h⟩
theorem GI_step {w w1 : World} {base b n : Nat} {av : Nat → Prop} {G : Int → List Int} (h : GI w base b n av G) (hb : w1.heap[b]? = w.heap[b]?) (hm : ∀ (k : Nat) (cells : Array Value), av k → w.heap[k]? = some (Obj.cells cells 3 (0, 0)) → w1.heap[k]? = w.heap[k]?) : GI w1 base b n av G := by
  obtain ⟨es, clock, h1, h2, h3, h4, h5, h6⟩ := h
  refine ⟨es, clock, hb.trans h1, h2, h3, fun x hx => ?_, h5, h6⟩
  obtain ⟨k, e1, e2, e3, e4⟩ := h4 x hx
  refine ⟨k, e1, e2, RI_step e3 (fun g hg => ?_) (fun _ _ => trivial), e4⟩
  obtain ⟨_, cells, hc⟩ := RI_lt e3 g hg
  exact hm g cells (e4 g hg) hc
theorem GI_lt {w : World} {base b n : Nat} {av : Nat → Prop} {G : Int → List Int} (h : GI w base b n av G) : b < w.heap.size := by
  obtain ⟨es, clock, h1, _⟩ := h
  exact blk_lt h1
theorem GI_map {w : World} {base b n : Nat} {av : Nat → Prop} {G : Int → List Int} (h : GI w base b n av G) : ∃ es clock, w.heap[b]? = some (.map es clock) := by
  obtain ⟨es, clock, h1, _⟩ := h
  exact ⟨es, clock, h1⟩
theorem GI_below {w w1 : World} {base b n : Nat} {av : Nat → Prop} {G : Int → List Int} (h : GI w base b n av G) (hb : Below w.heap.size w w1) : GI w1 base b n av G := GI_step h (hb.block b (GI_lt h)) (fun k cells _ hk => hb.block k (blk_lt hk))
theorem GI_av {w : World} {base b n : Nat} {av av' : Nat → Prop} {G : Int → List Int} (h : GI w base b n av G) (ha : ∀ g, g < w.heap.size → av g → av' g) : GI w base b n av' G := by
  obtain ⟨es, clock, h1, h2, h3, h4, h5, h6⟩ := h
  refine ⟨es, clock, h1, h2, h3, fun x hx => ?_, h5, h6⟩
  obtain ⟨k, e1, e2, e3, e4⟩ := h4 x hx
  exact ⟨k, e1, e2, e3, fun g hg => ha g (RI_lt e3 g hg).1 (e4 g hg)⟩
theorem GI_len {w : World} {base b n : Nat} {av : Nat → Prop} {G : Int → List Int} (h : GI w base b n av G) (ty : TypeId) : ∃ m : Nat, (Builtin.len_ #[77] ty #[.map (some b)]).run Try.prog w = .ok (.int .i64 m) w ∧ (m = 0 ↔ ∀ k, G k = []) := by
  obtain ⟨es, clock, h1, h2, h3, h4, h5, h6⟩ := h
  refine ⟨es.size, ?_, fun h0 k => ?_, fun hk => ?_⟩
  · simp [Builtin.len_, run_underlying Try.underlying77, MapKept.run_getObj_map h1, goInt, Result.andThen]
  · by_cases c : G k = []
    · exact c
    · obtain ⟨x, hx, _⟩ := h6 k c
      have := List.length_pos_of_mem hx
      simp at this
      omega
  · cases he : es.toList with
    | nil => simpa using congrArg List.length he
    | cons x l =>
      obtain ⟨k, _, e2, _⟩ := h4 x (by rw [he]; exact List.mem_cons_self ..)
      exact absurd (hk k) e2
theorem erase_mem {l : List MapEntry} (hp : l.Pairwise (fun x y => x.key ≠ y.key)) {j : Nat} {e0 : MapEntry} (hj : l[j]? = some e0) : (∀ x ∈ l.eraseIdx j, x.key ≠ e0.key) ∧ ∀ x ∈ l, x.key ≠ e0.key → x ∈ l.eraseIdx j := by
  induction l generalizing j with
  | nil => simp at hj
  | cons a l ih =>
    obtain ⟨q1, q2⟩ := List.pairwise_cons.1 hp
    cases j with
    | zero =>
      simp only [List.getElem?_cons_zero, Option.some.injEq] at hj
      subst hj
      refine ⟨fun x hx => ?_, fun x hx hne => ?_⟩
      · exact (q1 x hx).symm
      · rcases List.mem_cons.1 hx with rfl | hx
        · exact absurd rfl hne
        · exact hx
    | succ j =>
      simp only [List.getElem?_cons_succ] at hj
      obtain ⟨i1, i2⟩ := ih q2 hj
      refine ⟨fun x hx => ?_, fun x hx hne => ?_⟩
      · rcases List.mem_cons.1 hx with rfl | hx
        · exact q1 e0 (List.mem_of_getElem? hj)
        · exact i1 x hx
      · rcases List.mem_cons.1 hx with rfl | hx
        · exact List.mem_cons_self ..
        · exact List.mem_cons_of_mem _ (i2 x hx hne)
theorem key_inj {a b : Int} (h : Value.int .i64 a = Value.int .i64 b) : a = b := by injection h
theorem GI_del {w : World} {base b n : Nat} {av : Nat → Prop} {G : Int → List Int} (h : GI w base b n av G) (hbb : ∀ g, g = b → ¬ ∃ cells, w.heap[g]? = some (Obj.cells cells 3 (0, 0))) (k : Int) (hk : (Lit.int .i64 k).wf = true) (ty : TypeId) :
    ∃ w1, (Builtin.delete_ #[77, 3] ty #[.map (some b), .int .i64 k]).run Try.prog w = .ok (.tuple #[]) w1 ∧ GI w1 base b n av (updG G k []) ∧ w.grownBy w1 (some b) := by
  obtain ⟨es, clock, h1, h2, h3, h4, h5, h6⟩ := h
  have hgr : ∀ es', w.grownBy (setBlock w b (.map es' clock)) (some b) := fun es' => ⟨rfl, rfl, rfl, by simp [setBlock], fun i _ hi => heap_setBlock_other h1 _ (fun e1 => hi (by rw [e1]))⟩
  have hrow : ∀ es' : Array MapEntry, ∀ (x : MapEntry) (zs : List Int), Kd.R kI 3 w base (fun _ => True) x.val zs → Kd.R kI 3 (setBlock w b (.map es' clock)) base (fun _ => True) x.val zs := fun es' x zs hx =>
    RI_step hx (fun g hg => heap_setBlock_other h1 _ (fun e => hbb g e (RI_lt hx g hg).2)) (fun _ _ => trivial)
  rcases law3.find w (keyI k hk) es.toList h2.keys with ⟨p1, p2⟩ | ⟨j, e0, p1, p2, p3⟩
  · refine ⟨setBlock w b (.map es clock), ?_, ⟨es, clock, heap_setBlock_same h1 _, h2, h3, fun x hx => ?_, h5, fun j hj => ?_⟩, hgr es⟩
    · simp [Builtin.delete_, run_underlying Try.underlying77, MapKept.run_getObj_map h1, law3.check w _ (keyI k hk), p1, MapKept.run_setObj_map _ h1, Result.andThen, setBlock]
    · obtain ⟨q, e1, e2, e3, e4⟩ := h4 x hx
      have hne : q ≠ k := fun e => p2 x hx (by rw [e1, e])
      exact ⟨q, e1, by unfold updG; rw [if_neg hne]; exact e2, by unfold updG; rw [if_neg hne]; exact hrow es x _ e3, e4⟩
    · unfold updG at hj
      by_cases c : j = k
      · rw [if_pos c] at hj
        exact absurd rfl hj
      · rw [if_neg c] at hj
        exact h6 j hj
  · have hjl : j < es.toList.length := (List.getElem?_eq_some_iff.1 p2).1
    have hjs : j < es.size := by simpa using hjl
    have hsub : (es.eraseIdxIfInBounds j).toList = es.toList.eraseIdx j := by
      unfold Array.eraseIdxIfInBounds
      rw [dif_pos hjs]
      simp
    have hmem : ∀ x ∈ (es.eraseIdxIfInBounds j).toList, x ∈ es.toList := fun x hx => by
      rw [hsub] at hx
      exact (List.eraseIdx_sublist _ _).subset hx
    have hap : es.toList.Pairwise (fun x y => x.key ≠ y.key) := ((stamped_iff es clock).1 h2.stamped).2.2
    obtain ⟨hmem2, hmem3⟩ := erase_mem hap p2
    rw [← hsub] at hmem2 hmem3
    refine ⟨setBlock w b (.map (es.eraseIdxIfInBounds j) clock), ?_, ⟨es.eraseIdxIfInBounds j, clock, heap_setBlock_same h1 _, ⟨Nat.le_trans (MapFrom.size_erase es j) h2.size, stamped_erase h2.stamped j, fun x hx => h2.reads x (hmem x hx)⟩, Nat.le_trans (MapFrom.size_erase es j) h3, fun x hx => ?_, fun x hx y hy => h5 x (hmem x hx) y (hmem y hy), fun q hq => ?_⟩, hgr _⟩
    · simp [Builtin.delete_, run_underlying Try.underlying77, MapKept.run_getObj_map h1, law3.check w _ (keyI k hk), p1, MapKept.run_setObj_map _ h1, Result.andThen, setBlock]
    · obtain ⟨q, e1, e2, e3, e4⟩ := h4 x (hmem x hx)
      have hne : q ≠ k := fun e => hmem2 x hx (by rw [e1, p3, e])
      exact ⟨q, e1, by unfold updG; rw [if_neg hne]; exact e2, by unfold updG; rw [if_neg hne]; exact hrow _ x _ e3, e4⟩
    · unfold updG at hq
      by_cases c : q = k
      · rw [if_pos c] at hq
        exact absurd rfl hq
      · rw [if_neg c] at hq
        obtain ⟨x, hx, e⟩ := h6 q hq
        exact ⟨x, hmem3 x hx (fun e2 => c (key_inj (by rw [← e, e2, p3]))), e⟩
/-- 'm[k]': the row, in whatever world holds the same map, and the way back. -/
theorem GI_look {w : World} {base b n : Nat} {av : Nat → Prop} {G : Int → List Int} (h : GI w base b n av G) (hn : n < 1000000) (hbb : ¬ ∃ cells, w.heap[b]? = some (Obj.cells cells 3 (0, 0))) (k : Int) (hk : (Lit.int .i64 k).wf = true) :
    ∃ v : Value, (∀ w1 : World, w1.heap[b]? = w.heap[b]? → (Instr.lookup 77 (.map (some b)) (.int .i64 k) false).run Try.prog w1 = .ok v w1) ∧ Kd.R kI 3 w base (fun _ => True) v (G k) ∧ (∀ g, v.ownBlock = some g → av g) ∧
      ∀ (w1 : World) (v1 : Value) (zs : List Int), w.grownBy w1 v.ownBlock → Kd.R kI 3 w1 base (fun _ => True) v1 zs → zs ≠ [] → (v1.ownBlock = v.ownBlock ∨ ∃ g, v1.ownBlock = some g ∧ w.heap.size ≤ g) → (∀ g, v1.ownBlock = some g → av g) →
        ∃ w2, (Instr.mapUpdate 77 (.map (some b)) (.int .i64 k) v1).run Try.prog w1 = .ok () w2 ∧ GI w2 base b (n + 1) av (updG G k zs) ∧ w1.grownBy w2 (some b) := by
  obtain ⟨es, clock, h1, h2, h3, h4, h5, h6⟩ := h
  have hap : es.toList.Pairwise (fun x y => x.key ≠ y.key) := ((stamped_iff es clock).1 h2.stamped).2.2
  have hkey := keyI k hk
  have hne_lit : (DataW.nil : DataW Unit) ≠ .lit (.bool true) := by intro e; cases e
  have main : ∀ v : Value, (∀ w1 : World, w1.heap[b]? = w.heap[b]? → (Instr.lookup 77 (.map (some b)) (.int .i64 k) false).run Try.prog w1 = .ok v w1) → Kd.R kI 3 w base (fun _ => True) v (G k) → (∀ g, v.ownBlock = some g → av g) →
      (∀ x ∈ es.toList, x.key ≠ .int .i64 k → ∀ g, x.val.ownBlock = some g → v.ownBlock ≠ some g) →
      ∃ v : Value, (∀ w1 : World, w1.heap[b]? = w.heap[b]? → (Instr.lookup 77 (.map (some b)) (.int .i64 k) false).run Try.prog w1 = .ok v w1) ∧ Kd.R kI 3 w base (fun _ => True) v (G k) ∧ (∀ g, v.ownBlock = some g → av g) ∧
      ∀ (w1 : World) (v1 : Value) (zs : List Int), w.grownBy w1 v.ownBlock → Kd.R kI 3 w1 base (fun _ => True) v1 zs → zs ≠ [] → (v1.ownBlock = v.ownBlock ∨ ∃ g, v1.ownBlock = some g ∧ w.heap.size ≤ g) → (∀ g, v1.ownBlock = some g → av g) →
        ∃ w2, (Instr.mapUpdate 77 (.map (some b)) (.int .i64 k) v1).run Try.prog w1 = .ok () w2 ∧ GI w2 base b (n + 1) av (updG G k zs) ∧ w1.grownBy w2 (some b) := by
    intro v hlook hrow hav hapart
    refine ⟨v, hlook, hrow, hav, fun w1 v1 zs hg hr1 hz hloc hav1 => ?_⟩
    have hb1 : w1.heap[b]? = some (.map es clock) := (hg.block b (blk_lt h1) (fun e => hbb (RI_lt hrow b e.symm).2)).trans h1
    obtain ⟨A, c, hsl⟩ := Kd.R_slice hr1
    have hv1 : slElem v1 = some (.nil, []) := by rw [hsl]; rfl
    obtain ⟨es', clock', hrun, F', hput, _, _, hwho⟩ := Maps.fit_store (R' := slElem) law3 Try.underlying77 hb1 h2 (by have : maxLen = 9223372036854775807 := rfl; omega) (fun x _ _ z hz => hz) hkey hv1
    have hg2 : w1.grownBy (setBlock w1 b (.map es' clock')) (some b) := ⟨rfl, rfl, rfl, by simp [setBlock], fun i _ hi => heap_setBlock_other hb1 _ (fun e1 => hi (by rw [e1]))⟩
    have hnb1 : ¬ ∃ cells, w1.heap[b]? = some (Obj.cells cells 3 (0, 0)) := by rintro ⟨cells, hc⟩; rw [hb1] at hc; cases hc
    have hrow2 : ∀ (u : Value) (ys : List Int), Kd.R kI 3 w1 base (fun _ => True) u ys → Kd.R kI 3 (setBlock w1 b (.map es' clock')) base (fun _ => True) u ys := fun u ys hu =>
      RI_step hu (fun g hgu => heap_setBlock_other hb1 _ (fun e => hnb1 (e ▸ (RI_lt hu g hgu).2))) (fun _ _ => trivial)
    have hcov : ∀ q : Int, q = k ∨ (∃ x ∈ es.toList, x.key = .int .i64 q) → (Lit.int .i64 q).wf = true → ∃ x ∈ es'.toList, x.key = .int .i64 q := by
      intro q hq hqw
      rcases Maps.fit_look false law3 Try.underlying77 (zero54 _) (heap_setBlock_same hb1 (.map es' clock')) F' (keyI q hqw) with ⟨_, _, hat⟩ | ⟨e0, y, hm0, hk0, _⟩
      · exfalso
        have e1 := hat (.lit (.bool true))
        rw [hput] at e1
        have e2 : (DataW.map (putKey (.int .i64 k) (.nil : DataW Unit) ((es.toList.map (rg Try.prog 3 slElem)).foldr DataW.insert []))) = (DataW.map ((es.toList.map (rg Try.prog 3 slElem)).foldr DataW.insert [])).put (.int .i64 k) .nil := (DataW.put_eq _ _ _).symm
        rw [e2] at e1
        by_cases c : q = k
        · subst c
          rw [Maps.atKey_put_same ⟨_, rfl⟩ (keyLit q)] at e1
          exact hne_lit e1
        · rw [Maps.atKey_put_other (by intro e; injection e with _ e; exact c e)] at e1
          rcases hq with hq | ⟨x, hx, hxk⟩
          · exact c hq
          · rcases Maps.fit_look false law3 Try.underlying77 (zero54 _) h1 h2 (keyI q hqw) with ⟨_, hno, _⟩ | ⟨e0, y, _, _, _, hy, hat2, _⟩
            · exact hno x hx hxk
            · obtain ⟨_, _, _, _, hy2⟩ := slElem_inv hy
              rw [hat2, hy2] at e1
              exact hne_lit e1
      · exact ⟨e0, hm0, hk0⟩
    refine ⟨_, hrun, ⟨es', clock', heap_setBlock_same hb1 _, F', ?_, fun x hx => ?_, fun x hx y hy hne g hgx => ?_, fun q hq => ?_⟩, hg2⟩
    · have e1 : es'.size = ((es'.toList.map (rg Try.prog 3 slElem)).foldr DataW.insert []).length := by rw [length_sorted]; simp
      rw [e1, hput]
      unfold putKey
      rw [length_insert]
      have e2 := List.length_filter_le (notKey (.int .i64 k)) ((es.toList.map (rg Try.prog 3 slElem)).foldr DataW.insert [])
      rw [length_sorted] at e2
      simp at e2
      omega
    · rcases hwho x hx with ⟨hx0, hxk⟩ | ⟨hxk, hxv⟩
      · obtain ⟨q, e1, e2, e3, e4⟩ := h4 x hx0
        have hqk : q ≠ k := fun e => hxk (by rw [e1, e])
        refine ⟨q, e1, by unfold updG; rw [if_neg hqk]; exact e2, ?_, e4⟩
        unfold updG
        rw [if_neg hqk]
        exact hrow2 _ _ (RI_step e3 (fun g hgx => hg.block g (RI_lt e3 g hgx).1 (fun e => hapart x hx0 hxk g hgx e.symm)) (fun _ _ => trivial))
      · refine ⟨k, hxk, by unfold updG; rw [if_pos rfl]; exact hz, ?_, fun g hgx => hav1 g (by rw [← hxv]; exact hgx)⟩
        unfold updG
        rw [if_pos rfl, hxv]
        exact hrow2 _ _ hr1
    · have old_new : ∀ x ∈ es.toList, x.key ≠ .int .i64 k → ∀ g, x.val.ownBlock = some g → v1.ownBlock ≠ some g := by
        intro x hx hxk g hgx e
        rcases hloc with h | ⟨g', h, hle⟩
        · exact hapart x hx hxk g hgx (by rw [← h]; exact e)
        · obtain ⟨_, _, _, e3, _⟩ := h4 x hx
          have := (RI_lt e3 g hgx).1
          rw [h] at e
          injection e with e
          omega
      rcases hwho x hx with ⟨hx0, hxk⟩ | ⟨hxk, hxv⟩ <;> rcases hwho y hy with ⟨hy0, hyk⟩ | ⟨hyk, hyv⟩
      · exact h5 x hx0 y hy0 hne g hgx
      · rw [hyv]
        exact old_new x hx0 hxk g hgx
      · intro e
        rw [hxv] at hgx
        exact old_new y hy0 hyk g e hgx
      · exact absurd (hxk.trans hyk.symm) hne
    · unfold updG at hq
      by_cases c : q = k
      · exact hcov q (Or.inl c) (by rw [c]; exact hk)
      · rw [if_neg c] at hq
        obtain ⟨x, hx, hxk⟩ := h6 q hq
        have hqw : (Lit.int .i64 q).wf = true := by
          obtain ⟨y, hy⟩ := h2.reads x hx
          have hkx := Go.WideElems.rd_key hy
          rw [hxk] at hkx
          obtain ⟨q', e1, e2, e3⟩ := Maps.keyOf_int_inv Try.underlying3 hkx
          rw [key_inj e1]
          exact e3
        exact hcov q (Or.inr ⟨x, hx, hxk⟩) hqw
  by_cases hex : ∃ x ∈ es.toList, x.key = .int .i64 k
  · obtain ⟨x0, hx0, hxk⟩ := hex
    obtain ⟨q, e1, e2, e3, e4⟩ := h4 x0 hx0
    have hqk : q = k := key_inj (by rw [← e1, hxk])
    subst hqk
    refine main x0.val (fun w1 hw1 => ?_) e3 e4 (fun x hx hne g hgx => fun e => h5 x hx x0 hx0 (by rw [hxk]; exact hne) g hgx e)
    rcases Maps.fit_look false law3 Try.underlying77 (zero54 w1) (hw1.trans h1) h2 hkey with ⟨_, hno, _⟩ | ⟨e0, y, hm0, hk0, hrun, _⟩
    · exact absurd hxk (hno x0 hx0)
    · have : e0 = x0 := entry_eq_of_key hap hm0 hx0 (by rw [hk0, hxk])
      rw [this] at hrun
      exact hrun
  · have hG : G k = [] := by
      by_cases c : G k = []
      · exact c
      · exact absurd (h6 k c) hex
    refine main (.slice none 0 0) (fun w1 hw1 => ?_) (by rw [hG]; exact Kd.R_nil _ _ _ _ _) (fun g hg => by cases hg) (fun x hx hne g hgx => by intro e; cases e)
    rcases Maps.fit_look false law3 Try.underlying77 (zero54 w1) (hw1.trans h1) h2 hkey with ⟨hrun, _, _⟩ | ⟨e0, y, hm0, hk0, hrun, _⟩
    · exact hrun
    · exact absurd ⟨e0, hm0, hk0⟩ hex
end Go.Proofs.Ytcldldmedphcfaa.C
