import Derived.Test.YtcldldmedphcfaaHPlan
/- The contract of recovery.loads: a map that holds the load of each tick. Condition: fewer than 1000 attempts. -/
namespace Go.Proofs.Ytcldldmedphcfaa.C
open Go.RowKit Go.Proofs.YtcldldmedphcfaaW.PrintWords Go.Proofs.YtcldldmedphcfaaW.PrintLast Go.Proofs.YtcldldmedphcfaaW.PrintMore
set_option linter.unusedVariables false
set_option linter.unusedSimpArgs false
/-- The load of a tick, by the attempts and their tickets. -/
def loadFn : List S60 → List S39 → Int → Int
  | a :: o, x :: p, t => (if a.f2 = true then 0 else (if a.f1 = t then 1 else 0) + (if a.f1 < x.f2 ∧ x.f2 = t then 1 else 0)) + loadFn o p t
  | _, _, _ => 0
/-- The ticks that may have a load. -/
def candOf (o : List S60) (p : List S39) : List Int := o.map (fun a => a.f1) ++ p.map (fun x => x.f2)
theorem plan_inv {s : List S67} {sig : Int} {l : List S60} {p : List S39} (h : recovery_Plan.f s sig l = some (p, 0)) : l.length < 1000 ∧ validB s sig = true ∧ readyB l = true ∧ planGo s (sortAtts l) (fun _ => 0) 0 = some p := by
  unfold recovery_Plan.f at h
  by_cases h1 : l.length < 1000
  · rw [if_pos h1] at h
    by_cases h2 : validB s sig = true
    · rw [if_pos h2] at h
      by_cases h3 : readyB l = true
      · rw [if_pos h3] at h
        obtain ⟨q, hq, e⟩ := Option.map_eq_some_iff.1 h
        simp only [Prod.mk.injEq] at e
        exact ⟨h1, h2, h3, by rw [hq, e.1]⟩
      · rw [if_neg h3] at h
        simp at h
    · rw [if_neg h2] at h
      simp at h
  · rw [if_neg h1] at h
    cases h
theorem planGo_bd (s : List S67) : ∀ (l : List S60) (g : Int → Int) (b : Int) (p : List S39), planGo s l g b = some p → 0 ≤ b → (∀ a ∈ l, 0 ≤ a.f1 ∧ a.f1 ≤ 1000) → p.length = l.length ∧ ∀ x ∈ p, 0 ≤ x.f2 ∧ x.f2 ≤ max b 1000 + 2000 * l.length
  | [], g, b, p, h, h0, hl => by
    simp only [planGo, Option.some.injEq] at h
    subst h
    exact ⟨rfl, fun x hx => by cases hx⟩
  | a :: l, g, b, p, h, h0, hl => by
    have ha := hl a (List.mem_cons_self ..)
    have hl' : ∀ c ∈ l, 0 ≤ c.f1 ∧ c.f1 ≤ 1000 := fun c hc => hl c (List.mem_cons_of_mem _ hc)
    simp only [planGo] at h
    by_cases hu : a.f2 = true
    · rw [if_pos hu] at h
      obtain ⟨q, hq, rfl⟩ := Option.map_eq_some_iff.1 h
      have ih := planGo_bd s l g b q hq h0 hl'
      refine ⟨by simp [ih.1], fun x hx => ?_⟩
      simp only [List.length_cons]
      rcases List.mem_cons.1 hx with rfl | hx
      · simp only
        omega
      · have := ih.2 x hx
        omega
    · rw [if_neg hu] at h
      obtain ⟨t, ht, h⟩ := Option.bind_eq_some_iff.1 h
      obtain ⟨q, hq, rfl⟩ := Option.map_eq_some_iff.1 h
      have hb := findOpen_bd _ _ _ _ _ ht
      have ih := planGo_bd s l _ t q hq (by omega) hl'
      refine ⟨by simp [ih.1], fun x hx => ?_⟩
      simp only [List.length_cons]
      rcases List.mem_cons.1 hx with rfl | hx
      · simp only
        omega
      · have := ih.2 x hx
        omega
theorem drop_rd39 (l : List S39) (k : Nat) (hk : k < l.length) : l.drop k = rd_T39 l k :: l.drop (k + 1) := by
  rw [List.drop_eq_getElem_cons hk]
  unfold rd_T39
  rw [Int.toNat_natCast, show l.getD k z39 = l[k] by simp [List.getD, hk]]
theorem mem_rd60 (l : List S60) (k : Nat) (hk : k < l.length) : rd_T60 l k ∈ l := by
  unfold rd_T60
  rw [Int.toNat_natCast, show l.getD k z60 = l[k] by simp [List.getD, hk]]
  exact List.getElem_mem hk
theorem mem_rd39 (l : List S39) (k : Nat) (hk : k < l.length) : rd_T39 l k ∈ l := by
  unfold rd_T39
  rw [Int.toNat_natCast, show l.getD k z39 = l[k] by simp [List.getD, hk]]
  exact List.getElem_mem hk
/-- What of the numbers holds between two rounds of the loop of loads. -/
structure LN (o : List S60) (p : List S39) (i : Nat) (g : Int → Option Int) : Prop where
  hi : i ≤ o.length
  gb : ∀ k, 0 ≤ (g k).getD 0 ∧ (g k).getD 0 ≤ 2 * i
  sum : ∀ t, (g t).getD 0 + loadFn (o.drop i) (p.drop i) t = loadFn o p t
  cand : ∀ k, (g k).isSome = true → k ∈ candOf o p
theorem mem_cand1 (o : List S60) (p : List S39) (i : Nat) (hi : i < o.length) : (rd_T60 o i).f1 ∈ candOf o p :=
  List.mem_append_left _ (List.mem_map.2 ⟨_, mem_rd60 o i hi, rfl⟩)
theorem mem_cand2 (o : List S60) (p : List S39) (i : Nat) (hi : i < p.length) : (rd_T39 p i).f2 ∈ candOf o p :=
  List.mem_append_right _ (List.mem_map.2 ⟨_, mem_rd39 p i hi, rfl⟩)
theorem LN.urgent {o : List S60} {p : List S39} {i : Nat} {g : Int → Option Int} (h : LN o p i g) (hi : i < o.length) (hp : p.length = o.length) (hu : (rd_T60 o i).f2 = true) : LN o p (i + 1) g where
  hi := hi
  gb := fun k => ⟨(h.gb k).1, by have := (h.gb k).2; omega⟩
  sum := fun t => by
    have := h.sum t
    rw [drop_rd60 o i hi, drop_rd39 p i (by omega)] at this
    simp only [loadFn, if_pos hu] at this
    omega
  cand := h.cand
theorem upd_getD (g : Int → Option Int) (k v t : Int) : ((upd g k v) t).getD 0 = if t = k then v else (g t).getD 0 := by
  unfold upd
  by_cases c : t = k
  · rw [if_pos c, if_pos c]
    rfl
  · rw [if_neg c, if_neg c]
theorem upd_some (g : Int → Option Int) (k v t : Int) (h : ((upd g k v) t).isSome = true) : t = k ∨ (g t).isSome = true := by
  unfold upd at h
  by_cases c : t = k
  · exact Or.inl c
  · rw [if_neg c] at h
    exact Or.inr h
theorem LN.one {o : List S60} {p : List S39} {i : Nat} {g : Int → Option Int} (h : LN o p i g) (hi : i < o.length) (hp : p.length = o.length) (hu : ¬ (rd_T60 o i).f2 = true) (hq : ¬ (rd_T60 o i).f1 < (rd_T39 p i).f2) :
    LN o p (i + 1) (upd g (rd_T60 o i).f1 ((g (rd_T60 o i).f1).getD 0 + 1)) where
  hi := hi
  gb := fun k => by
    have h1 := h.gb k
    have h2 := h.gb (rd_T60 o i).f1
    rw [upd_getD]
    split <;> omega
  sum := fun t => by
    have := h.sum t
    rw [drop_rd60 o i hi, drop_rd39 p i (by omega)] at this
    simp only [loadFn, if_neg hu] at this
    rw [upd_getD]
    have e1 : t = (rd_T60 o i).f1 → (g t).getD 0 = (g (rd_T60 o i).f1).getD 0 := fun e => by rw [e]
    split at this <;> split at this <;> split <;> omega
  cand := fun k hk => by
    rcases upd_some _ _ _ _ hk with rfl | hk
    · exact mem_cand1 o p i hi
    · exact h.cand k hk
theorem LN.two {o : List S60} {p : List S39} {i : Nat} {g : Int → Option Int} (h : LN o p i g) (hi : i < o.length) (hp : p.length = o.length) (hu : ¬ (rd_T60 o i).f2 = true) (hq : (rd_T60 o i).f1 < (rd_T39 p i).f2) :
    LN o p (i + 1) (upd (upd g (rd_T60 o i).f1 ((g (rd_T60 o i).f1).getD 0 + 1)) (rd_T39 p i).f2 ((g (rd_T39 p i).f2).getD 0 + 1)) where
  hi := hi
  gb := fun k => by
    have h1 := h.gb k
    have h2 := h.gb (rd_T60 o i).f1
    have h3 := h.gb (rd_T39 p i).f2
    rw [upd_getD, upd_getD]
    split
    · omega
    · split <;> omega
  sum := fun t => by
    have := h.sum t
    rw [drop_rd60 o i hi, drop_rd39 p i (by omega)] at this
    simp only [loadFn, if_neg hu] at this
    rw [upd_getD, upd_getD]
    have e1 : t = (rd_T60 o i).f1 → (g t).getD 0 = (g (rd_T60 o i).f1).getD 0 := fun e => by rw [e]
    have e2 : t = (rd_T39 p i).f2 → (g t).getD 0 = (g (rd_T39 p i).f2).getD 0 := fun e => by rw [e]
    split at this <;> split at this <;> split <;> (try split) <;> omega
  cand := fun k hk => by
    rcases upd_some _ _ _ _ hk with rfl | hk
    · exact mem_cand2 o p i (by omega)
    · rcases upd_some _ _ _ _ hk with rfl | hk
      · exact mem_cand1 o p i hi
      · exact h.cand k hk
set_option maxHeartbeats 8000000 in
set_option maxRecDepth 100000 in
theorem loads49 (A0_0 : Option Addr) (c0_0 : Nat) (l0_0 : List S67) (a0_1 : Int) (A1 : Option Addr) (c1 : Nat) (l1 : List S60) (p : List S39) (w : World) (hr0_0 : Kd.C k67 w A0_0 l0_0.length l0_0) (hc0_0 : l0_0.length ≤ c0_0) (hr1 : Kd.C k60 w A1 l1.length l1) (hc1 : l1.length ≤ c1) (h : recovery_Plan.f l0_0 a0_1 l1 = some (p, 0)) :
    Calls Try.prog 49 #[.agg #[.slice A0_0 l0_0.length c0_0, .int .i64 a0_1], .slice A1 l1.length c1] w fun e w' => ∃ (mb : Nat) (g : Int → Option Int), e = .returned (.tuple #[.map (some mb), .bool true]) ∧ w.heap.size ≤ mb ∧ MI w' mb 1000 g ∧ LN (sortAtts l1) p (sortAtts l1).length g ∧ Below w.heap.size w w' := by
  obtain ⟨hlen, hv, hrd, hgo⟩ := plan_inv h
  have hpl := planGo_bd _ _ _ _ _ hgo (by omega) (fun a ha => by
    obtain ⟨i, hi, rfl⟩ := List.mem_iff_getElem.1 ha
    have := ready_at hrd i hi
    unfold rd_T60 at this
    rwa [Int.toNat_natCast, show (sortAtts l1).getD i z60 = (sortAtts l1)[i] by simp [List.getD, hi]] at this)
  have hl40 := ready_len hrd
  have HH := Aside0.mk h
  have HC0 := Aside0.mk hr0_0
  have HC1 := Aside0.mk hr1
  have HL0 := Aside0.mk hc0_0
  have HL1 := Aside0.mk hc1
  have HRD := Aside0.mk hrd
  have HPL := Aside0.mk hpl
  have HOD : Aside0 (recovery_ordered.f l1 = some (sortAtts l1)) := ⟨by unfold recovery_ordered.f; rw [if_pos hlen]⟩
  have hmm := @run_makeMap Try.prog
  obtain ⟨w0, hw0⟩ : ∃ w0, w.alloc (.cells #[.slice A0_0 l0_0.length c0_0, .int .i64 a0_1] 26) = w0 := ⟨_, rfl⟩
  have hB0 : Below w.heap.size w w0 := by rw [← hw0]; exact below_alloc (Below.refl _ _) _
  have hblk0 : w0.heap[w.heap.size]? = some (.cells #[.slice A0_0 l0_0.length c0_0, .int .i64 a0_1] 26 (0, 0)) := by rw [← hw0]; exact heap_alloc_new _ _
  have c00 : w0.cell? ⟨w.heap.size, 0, none⟩ = some (.slice A0_0 l0_0.length c0_0) := (blk_cell hblk0 0).trans rfl
  have c01 : w0.cell? ⟨w.heap.size, 1, none⟩ = some (.int .i64 a0_1) := (blk_cell hblk0 1).trans rfl
  have HB0 := Aside0.mk hB0
  have HK0 := Aside0.mk hblk0
  clear h hr0_0 hr1 hc0_0 hc1 hlen hv hrd hgo hpl hB0 hblk0
  go_enter Try.func49, Try.ntmps49
  go_wp2_with (first
    | (go_at_call 16; (refine (recovery_Plan.calls A0_0 c0_0 l0_0 a0_1 A1 c1 l1 p 0 w0 (Kd.C_below HC0.out HB0.out) HL0.out (Kd.C_below HC1.out HB0.out) HL1.out HH.out).mono ?_); rintro e w1 ⟨v6, rfl, ho1, hb1⟩; obtain ⟨Ap, cp, rfl⟩ := Kd.R_slice ho1; have HO1 := Aside0.mk ho1; have HB1 := Aside0.mk hb1; clear ho1 hb1)
    | (go_at_call 41; (refine (recovery_ordered.calls A1 c1 l1 (sortAtts l1) _ (Kd.C_below HC1.out (below_alloc (below_step HB0.out HB1.out) _)) HL1.out HOD.out).mono ?_); rintro e w3 ⟨v3, rfl, ho3, hb3⟩; obtain ⟨Ao, co, rfl⟩ := Kd.R_slice ho3; have HO3 := Aside0.mk ho3; have HB3 := Aside0.mk hb3; clear ho3 hb3)
    | go_in)
  go_loopw [23] (fun v wr => ∃ (i n : Nat) (g : Int → Option Int), v = .int .i64 i ∧ Aside0 (n ≤ 2 * i) ∧ Aside0 (PW w wr w.heap.size w1.heap.size A0_0 c0_0 l0_0 a0_1 Ao co (sortAtts l1) (.slice Ap p.length cp) [] p) ∧ Aside0 (MI wr w1.heap.size n g) ∧ Aside0 (LN (sortAtts l1) p i g)) (fun v _ => (sortAtts l1).length - (intOf v).toNat)
  case atStart =>
    have hb1 : Below w.heap.size w w1 := below_step HB0.out HB1.out
    have hb3 : Below w.heap.size w (w1.alloc (.map #[] 0)) := below_alloc hb1 _
    exact ⟨0, 0, fun _ => none, rfl, ⟨Nat.le_refl _⟩, ⟨⟨below_step hb3 HB3.out, blk_below (blk_alloc (blk_below HK0.out HB1.out) _) HB3.out, Kd.R_lower HO3.out hb3.size, fun _ hb => absurd hb (List.not_mem_nil), List.nodup_nil, hb1.size, ⟨_, _, blk_below (heap_alloc_new _ _) HB3.out⟩, Kd.R_below (Kd.R_alloc (Kd.R_lower HO1.out HB0.out.size) _) HB3.out⟩⟩, ⟨MI_below (MI_made w1) HB3.out⟩, ⟨⟨Nat.zero_le _, fun k => ⟨Int.le_refl _, Int.le_refl _⟩, fun t => by simp, fun k hk => by cases hk⟩⟩⟩
  case round =>
    obtain ⟨i, n, g, rfl, HN, HPW, HMI, HLN⟩ := hrel
    have hi := HLN.out.hi
    have hn := HN.out
    by_cases hlt : i < (sortAtts l1).length
    · obtain ⟨ad, hA, hx0, hx1, hx2⟩ := at_T60 (Kd.R_reads' HPW.out.ord).2.2 (i : Int) (by omega) (by omega)
      subst hA
      rw [Int.toNat_natCast] at hx0 hx1 hx2
      have hc3 : decide ((i : Int) < (sortAtts l1).length) = true := decide_eq_true (by omega)
      by_cases hu : (rd_T60 (sortAtts l1) i).f2 = true
      · have HLN2 := Aside0.mk (HLN.out.urgent hlt HPL.out.1 hu)
        rw [hu] at hx2
        clear hu
        go_wp2
        go_roundw
        case rel => exact ⟨i + 1, n, g, by go_num, ⟨by omega⟩, ⟨HPW.out.step (below_alloc (Below.refl _ _) _)⟩, ⟨MI_below HMI.out (below_alloc (Below.refl _ _) _)⟩, HLN2⟩
        case measure => simp [intOf]; omega
      · have HNU := Aside0.mk hu
        have hat := ready_at HRD.out i hlt
        have hpt := HPL.out.2 _ (mem_rd39 p i (by have := HPL.out.1; omega))
        rw [Bool.eq_false_iff.mpr hu] at hx2
        have hgt := HLN.out.gb (rd_T60 (sortAtts l1) i).f1
        have hgp := HLN.out.gb (rd_T39 p i).f2
        have hwt := wfI (rd_T60 (sortAtts l1) i).f1 (by omega)
        have hwp := wfI (rd_T39 p i).f2 (by omega)
        clear hu
        have hmi4 : MI (wr.alloc (.cells #[.int .i64 (rd_T60 (sortAtts l1) i).f0, .int .i64 (rd_T60 (sortAtts l1) i).f1, .bool false] 60)) w1.heap.size n g := MI_below HMI.out (below_alloc (Below.refl _ _) _)
        have hlk := MI_look hmi4 _ hwt
        have HPW4 := Aside0.mk (HPW.out.step (below_alloc (Below.refl wr.heap.size wr) (.cells #[.int .i64 (rd_T60 (sortAtts l1) i).f0, .int .i64 (rd_T60 (sortAtts l1) i).f1, .bool false] 60)))
        have HMI4 := Aside0.mk hmi4
        have hmne : w1.heap.size ≠ wr.heap.size := by
          obtain ⟨es, clock, hm⟩ := HPW.out.mbm
          have := blk_lt hm
          omega
        clear hmi4
        go_upto_region 10 with (first
          | (at_mapUpdate; refine wpList_MI_put _ rfl _ _ _ rfl w1.heap.size n g rfl HMI4.out (by omega) _ ((g (rd_T60 (sortAtts l1) i).f1).getD 0 + 1) hwt (wfI _ (by omega)) rfl ?hv ?_; (case hv => first | rfl | (go_simp; done) | (simp; done)); intro w4 hmi5 hgr5; have HMI5 := Aside0.mk hmi5; have HG5 := Aside0.mk hgr5; clear hmi5 hgr5)
          | go_in)
        (try simp only [Act.put, List.setIfInBounds_toArray, List.set_cons_zero, List.set_cons_succ])
        have hbox : w4.heap[wr.heap.size]? = some (.cells #[.int .i64 (rd_T60 (sortAtts l1) i).f0, .int .i64 (rd_T60 (sortAtts l1) i).f1, .bool false] 60 (0, 0)) := (HG5.out.block _ (by rw [World.size_alloc]; omega) (fun e => hmne (Option.some.inj e).symm)).trans (heap_alloc_new _ _)
        have q1 : w4.cell? ⟨wr.heap.size, 1, none⟩ = some (.int .i64 (rd_T60 (sortAtts l1) i).f1) := (blk_cell hbox 1).trans rfl
        have HPW5 := Aside0.mk (HPW4.out.mapped HG5.out (MI_map HMI5.out))
        obtain ⟨ap, hAp, hy0, hy1, hy2⟩ := at_T39 (Kd.R_reads' HPW5.out.out).2.2 (i : Int) (by omega) (by have := HPL.out.1; omega)
        subst hAp
        rw [Int.toNat_natCast] at hy0 hy1 hy2
        have HBX := Aside0.mk hbox
        have hip : i < p.length := by have := HPL.out.1; omega
        clear hbox
        by_cases hq : (rd_T60 (sortAtts l1) i).f1 < (rd_T39 p i).f2
        · have hd : decide ((rd_T39 p i).f2 > (rd_T60 (sortAtts l1) i).f1) = true := decide_eq_true hq
          have HLN2 := Aside0.mk (HLN.out.two hlt HPL.out.1 HNU.out hq)
          have hgq : ((upd g (rd_T60 (sortAtts l1) i).f1 ((g (rd_T60 (sortAtts l1) i).f1).getD 0 + 1)) (rd_T39 p i).f2).getD 0 = (g (rd_T39 p i).f2).getD 0 := by rw [upd_getD, if_neg (by omega)]
          have HGQ := Aside0.mk hgq
          have HAD := Aside0.mk (And.intro hy0 (And.intro hy1 hy2))
          clear hq hgq
          go_quiet (go_in)
          obtain ⟨w5, hw5⟩ : ∃ w5, w4.drewN nq = w5 := ⟨_, rfl⟩
          have hb5 : Below w4.heap.size w4 w5 := by rw [← hw5]; exact pw_below_drewN (Below.refl _ _) _
          have HMI6 := Aside0.mk (MI_below HMI5.out hb5)
          have HPW6 := Aside0.mk (HPW5.out.step hb5)
          have hlk2 := MI_look HMI6.out _ hwp
          rw [HGQ.out] at hlk2
          have hz2 : w5.cell? ⟨(ap.add (i * 3)).block, (ap.add (i * 3)).off + 2, none⟩ = some (.int .i64 (rd_T39 p i).f2) := by rw [← hw5]; exact hy2
          rw [hw5]
          clear hy0 hy1 hy2 q1 hx0 hx1 hx2 hlk hw5 hb5
          go_wp2_with (first
            | (at_mapUpdate; refine wpList_MI_put _ rfl _ _ _ rfl w1.heap.size (n + 1) _ rfl HMI6.out (by omega) _ ((g (rd_T39 p i).f2).getD 0 + 1) hwp (wfI _ (by omega)) rfl ?hv ?_; (case hv => first | rfl | (go_simp; done) | (simp; done)); intro w6 hmi7 hgr7; have HMI7 := Aside0.mk hmi7; have HG7 := Aside0.mk hgr7; clear hmi7 hgr7)
            | go_in)
          go_roundw
          case rel => exact ⟨i + 1, n + 1 + 1, _, by go_num, ⟨by omega⟩, ⟨HPW6.out.mapped HG7.out (MI_map HMI7.out)⟩, HMI7, HLN2⟩
          case measure => simp [intOf]; omega
        · have hd : decide ((rd_T39 p i).f2 > (rd_T60 (sortAtts l1) i).f1) = false := decide_eq_false hq
          have HLN2 := Aside0.mk (HLN.out.one hlt HPL.out.1 HNU.out hq)
          clear hq
          go_quiet (go_in)
          go_wp2
          go_roundw
          case rel => exact ⟨i + 1, n + 1, _, by go_num, ⟨by omega⟩, ⟨HPW5.out.step (pw_below_drewN (Below.refl _ _) _)⟩, ⟨MI_below HMI5.out (pw_below_drewN (Below.refl _ _) _)⟩, HLN2⟩
          case measure => simp [intOf]; omega
    · have ei : i = (sortAtts l1).length := by omega
      have hc3 : decide ((i : Int) < (sortAtts l1).length) = false := decide_eq_false (by omega)
      have HMI2 := Aside0.mk (MI_mono HMI.out (show n ≤ 1000 by omega))
      subst ei
      go_wp2
      go_ret2
      exact ⟨_, g, rfl, HPW.out.mbn, HMI2.out, HLN.out, HPW.out.below⟩
end Go.Proofs.Ytcldldmedphcfaa.C
