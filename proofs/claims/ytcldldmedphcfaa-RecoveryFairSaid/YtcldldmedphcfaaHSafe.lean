import Derived.Test.YtcldldmedphcfaaHLoad
import Derived.Maps.RangeWalk
import Derived.Laws.IdiomRangeMap
/- The contract of recovery.Safe. Condition: fewer than 1000 attempts. -/
namespace Go.Proofs.Ytcldldmedphcfaa.C
open Go.RowKit Go.Proofs.YtcldldmedphcfaaW.PrintWords Go.Proofs.YtcldldmedphcfaaW.PrintLast Go.Proofs.YtcldldmedphcfaaW.PrintMore
set_option linter.unusedVariables false
set_option linter.unusedSimpArgs false
/-- The first of some ticks whose load is greater than sig; -1 if there is none. -/
def pickBad (G : Int → Int) (sig : Int) : List Int → Int
  | [] => -1
  | t :: cs => let m := pickBad G sig cs; if sig < G t ∧ (m < 0 ∨ t < m) then t else m
theorem pickBad_spec (G : Int → Int) (sig : Int) : ∀ cs : List Int, (∀ t ∈ cs, 0 ≤ t) → (pickBad G sig cs = -1 ∧ ∀ t ∈ cs, ¬ sig < G t) ∨ (0 ≤ pickBad G sig cs ∧ pickBad G sig cs ∈ cs ∧ sig < G (pickBad G sig cs) ∧ ∀ t ∈ cs, sig < G t → pickBad G sig cs ≤ t)
  | [], _ => Or.inl ⟨rfl, fun t ht => by cases ht⟩
  | t :: cs, h => by
    have ht := h t (List.mem_cons_self ..)
    have ih := pickBad_spec G sig cs (fun x hx => h x (List.mem_cons_of_mem _ hx))
    simp only [pickBad]
    by_cases c : sig < G t ∧ (pickBad G sig cs < 0 ∨ t < pickBad G sig cs)
    · rw [if_pos c]
      refine Or.inr ⟨ht, List.mem_cons_self .., c.1, fun x hx hb => ?_⟩
      rcases List.mem_cons.1 hx with rfl | hx
      · exact Int.le_refl _
      · rcases ih with ⟨h1, h2⟩ | ⟨h1, _, _, h4⟩
        · exact absurd hb (h2 x hx)
        · have := h4 x hx hb
          omega
    · rw [if_neg c]
      rcases ih with ⟨h1, h2⟩ | ⟨h1, h2, h3, h4⟩
      · refine Or.inl ⟨h1, fun x hx hb => ?_⟩
        rcases List.mem_cons.1 hx with rfl | hx
        · exact c ⟨hb, Or.inl (by omega)⟩
        · exact h2 x hx hb
      · refine Or.inr ⟨h1, List.mem_cons_of_mem _ h2, h3, fun x hx hb => ?_⟩
        rcases List.mem_cons.1 hx with rfl | hx
        · by_cases q : x < pickBad G sig cs
          · exact absurd ⟨hb, Or.inr q⟩ c
          · omega
        · exact h4 x hx hb
/-- What the loop of Safe has found among the entries that are no longer to come. -/
def SafeInv (g : Int → Option Int) (sig m : Int) (left : Lit → Bool) : Prop :=
  (m = -1 ∧ ∀ k, (g k).isSome = true → left (.int .i64 k) = false → ¬ sig < (g k).getD 0) ∨
    (0 ≤ m ∧ (g m).isSome = true ∧ sig < (g m).getD 0 ∧ ∀ k, (g k).isSome = true → left (.int .i64 k) = false → sig < (g k).getD 0 → m ≤ k)
theorem SafeInv_struck {left : Lit → Bool} {x k : Int} (h : (left (.int .i64 k) && !(Lit.int .i64 k).sameKey (.int .i64 x)) = false) : left (.int .i64 k) = false ∨ k = x := by
  rcases Bool.and_eq_false_iff.1 h with h | h
  · exact Or.inl h
  · refine Or.inr ?_
    have : (Lit.int .i64 k).sameKey (.int .i64 x) = true := by simpa using h
    have e := (WideAt.sameKey_iff (keyLit x)).1 this
    injection e
theorem SafeInv_keep {g : Int → Option Int} {sig m x : Int} {left : Lit → Bool} (h : SafeInv g sig m left) (hx : (g x).isSome = true) (hk : sig < (g x).getD 0 → 0 ≤ m ∧ m ≤ x) : SafeInv g sig m (fun z => left z && !z.sameKey (.int .i64 x)) := by
  rcases h with ⟨h1, h2⟩ | ⟨h1, h2, h3, h4⟩
  · refine Or.inl ⟨h1, fun k hs hl hb => ?_⟩
    rcases SafeInv_struck hl with hl | rfl
    · exact h2 k hs hl hb
    · have := hk hb
      omega
  · refine Or.inr ⟨h1, h2, h3, fun k hs hl hb => ?_⟩
    rcases SafeInv_struck hl with hl | rfl
    · exact h4 k hs hl hb
    · exact (hk hb).2
theorem SafeInv_take {g : Int → Option Int} {sig m x : Int} {left : Lit → Bool} (h : SafeInv g sig m left) (hx : (g x).isSome = true) (h0 : 0 ≤ x) (hb : sig < (g x).getD 0) (hm : m < 0 ∨ x < m) : SafeInv g sig x (fun z => left z && !z.sameKey (.int .i64 x)) := by
  refine Or.inr ⟨h0, hx, hb, fun k hs hl hbk => ?_⟩
  rcases SafeInv_struck hl with hl | rfl
  · rcases h with ⟨h1, h2⟩ | ⟨h1, h2, h3, h4⟩
    · exact absurd hbk (h2 k hs hl)
    · have := h4 k hs hl hbk
      omega
  · exact Int.le_refl _
theorem SafeInv_end {g : Int → Option Int} {sig m : Int} {left : Lit → Bool} {G : Int → Int} {cs : List Int} (h : SafeInv g sig m left) (hl : ∀ kl, left kl = false) (hG : ∀ t, (g t).getD 0 = G t) (hc : ∀ k, (g k).isSome = true → k ∈ cs) (h0 : ∀ t ∈ cs, 0 ≤ t) (hs : 0 ≤ sig) : m = pickBad G sig cs := by
  have hp := pickBad_spec G sig cs h0
  have hbs : ∀ t, sig < G t → (g t).isSome = true := by
    intro t ht
    rw [← hG] at ht
    cases hg : g t with
    | none => rw [hg] at ht; simp only [Option.getD_none] at ht; omega
    | some v => rfl
  rcases h with ⟨h1, h2⟩ | ⟨h1, h2, h3, h4⟩
  · rcases hp with ⟨p1, p2⟩ | ⟨p1, p2, p3, p4⟩
    · rw [h1, p1]
    · exact absurd (by rw [hG]; exact p3) (h2 _ (hbs _ p3) (hl _))
  · rcases hp with ⟨p1, p2⟩ | ⟨p1, p2, p3, p4⟩
    · exact absurd (by rw [← hG]; exact h3) (p2 m (hc m h2))
    · have a1 := p4 m (hc m h2) (by rw [← hG]; exact h3)
      have a2 := h4 _ (hbs _ p3) (hl _) (by rw [hG]; exact p3)
      omega
def recovery_Safe.f (s : List S67) (sig : Int) (l : List S60) : Option (Int × Bool) :=
  (recovery_Plan.f s sig l).bind fun bt => if bt.2 = 0 then some (pickBad (loadFn (sortAtts l) bt.1) sig (candOf (sortAtts l) bt.1), decide (pickBad (loadFn (sortAtts l) bt.1) sig (candOf (sortAtts l) bt.1) < 0)) else some (-1, false)
theorem sig_valid {s : List S67} {sig : Int} (h : validB s sig = true) : 1 ≤ sig ∧ sig ≤ 100 := by
  unfold validB at h
  by_cases c : (1 ≤ (s.length : Int) ∧ (s.length : Int) ≤ 10) ∧ (1 ≤ sig ∧ sig ≤ 100) ∧ (rd_T67 s 0).f0 = 0
  · exact c.2.1
  · rw [if_neg c] at h
    cases h
theorem cand_nonneg {s : List S67} {sig : Int} {l : List S60} {p : List S39} (h : recovery_Plan.f s sig l = some (p, 0)) : ∀ t ∈ candOf (sortAtts l) p, 0 ≤ t := by
  obtain ⟨hlen, hv, hrd, hgo⟩ := plan_inv h
  have hall : ∀ a ∈ sortAtts l, 0 ≤ a.f1 ∧ a.f1 ≤ 1000 := fun a ha => by
    obtain ⟨i, hi, rfl⟩ := List.mem_iff_getElem.1 ha
    have := ready_at hrd i hi
    unfold rd_T60 at this
    rwa [Int.toNat_natCast, show (sortAtts l).getD i z60 = (sortAtts l)[i] by simp [List.getD, hi]] at this
  have hpl := planGo_bd _ _ _ _ _ hgo (by omega) hall
  intro t ht
  rcases List.mem_append.1 ht with ht | ht
  · obtain ⟨a, ha, rfl⟩ := List.mem_map.1 ht
    exact (hall a ha).1
  · obtain ⟨a, ha, rfl⟩ := List.mem_map.1 ht
    exact (hpl.2 a ha).1
set_option maxHeartbeats 8000000 in
set_option maxRecDepth 100000 in
theorem recovery_Safe.calls (A0_0 : Option Addr) (c0_0 : Nat) (l0_0 : List S67) (a0_1 : Int) (A1 : Option Addr) (c1 : Nat) (l1 : List S60) (r1 : Int) (r2 : Bool) (w : World) (hr0_0 : Kd.C k67 w A0_0 l0_0.length l0_0) (hc0_0 : l0_0.length ≤ c0_0) (hr1 : Kd.C k60 w A1 l1.length l1) (hc1 : l1.length ≤ c1) (h : recovery_Safe.f l0_0 a0_1 l1 = some (r1, r2)) :
    Calls Try.prog 24 #[.agg #[.slice A0_0 l0_0.length c0_0, .int .i64 a0_1], .slice A1 l1.length c1] w fun e w' => e = .returned (.tuple #[.int .i64 r1, .bool r2]) ∧ Below w.heap.size w w' := by
  unfold recovery_Safe.f at h
  obtain ⟨bt, hp, h⟩ := Option.bind_eq_some_iff.1 h
  have HC0 := Aside0.mk hr0_0
  have HC1 := Aside0.mk hr1
  have HL0 := Aside0.mk hc0_0
  have HL1 := Aside0.mk hc1
  obtain ⟨w0, hw0⟩ : ∃ w0, w.alloc (.cells #[.slice A0_0 l0_0.length c0_0, .int .i64 a0_1] 26) = w0 := ⟨_, rfl⟩
  have hB0 : Below w.heap.size w w0 := by rw [← hw0]; exact below_alloc (Below.refl _ _) _
  have hblk0 : w0.heap[w.heap.size]? = some (.cells #[.slice A0_0 l0_0.length c0_0, .int .i64 a0_1] 26 (0, 0)) := by rw [← hw0]; exact heap_alloc_new _ _
  have c00 : w0.cell? ⟨w.heap.size, 0, none⟩ = some (.slice A0_0 l0_0.length c0_0) := (blk_cell hblk0 0).trans rfl
  have c01 : w0.cell? ⟨w.heap.size, 1, none⟩ = some (.int .i64 a0_1) := (blk_cell hblk0 1).trans rfl
  have HB0 := Aside0.mk hB0
  have HK0 := Aside0.mk hblk0
  clear hr0_0 hr1 hc0_0 hc1 hB0 hblk0
  rcases plan_cases hp with ⟨p, rfl⟩ | rfl
  · rw [if_pos rfl] at h
    obtain ⟨e1, e2⟩ := Prod.mk.inj (Option.some.inj h)
    have HE1 := Aside0.mk e1
    rw [e1] at e2
    have HE2 := Aside0.mk e2
    have hc0 := cand_nonneg hp
    have hs1 := sig_valid (plan_inv hp).2.1
    have HC := Aside0.mk hc0
    have HP := Aside0.mk hp
    clear hp h e1 e2 hc0
    go_enter Try.func24, Try.ntmps24
    go_wp2_with (first
      | (go_at_call 49; (refine (loads49 A0_0 c0_0 l0_0 a0_1 A1 c1 l1 p w0 (Kd.C_below HC0.out HB0.out) HL0.out (Kd.C_below HC1.out HB0.out) HL1.out HP.out).mono ?_); rintro e w1 ⟨mb, g, rfl, hmb, ⟨D, hown, hhas, hatk⟩, hln, hb1⟩; have HOWN := Aside0.mk hown; have HHAS := Aside0.mk hhas; have HATK := Aside0.mk hatk; have HLN := Aside0.mk hln; have HB1 := Aside0.mk hb1; have HMB := Aside0.mk hmb; clear hown hhas hatk hln hb1 hmb)
      | (at_range; refine wpList_range_own _ rfl _ 72 rfl 3 3 law3 Try.underlying72 _ mb 1000 _ rfl HOWN.out ?_; intro w2 hrg0 hg0 hs0; have HRG := Aside0.mk hrg0; have HG0 := Aside0.mk hg0; clear hrg0 hg0 hs0)
      | go_in)
    all_goals go_frame
    go_loopw [8] (fun v wr => ∃ (m : Int) (left : Lit → Bool) (cnt : Nat), v = .int .i64 m ∧ Aside0 (wr.ranges Try.prog 3 (plainElem Try.prog 3) mb w1.heap.size 1000 D left cnt) ∧ Aside0 (Below w.heap.size w wr) ∧ Aside0 (wr.heap[w.heap.size]? = some (.cells #[.slice A0_0 l0_0.length c0_0, .int .i64 a0_1] 26 (0, 0))) ∧ Aside0 (SafeInv g a0_1 m left)) (fun _ wr => wr.rangeLeft mb w1.heap.size)
    case atStart =>
      have hb1 : Below w.heap.size w w1 := below_step HB0.out HB1.out
      exact ⟨-1, _, _, rfl, HRG, ⟨hb1.grown HG0.out hb1.size (fun k e => by cases e)⟩, ⟨blk_grown (blk_below HK0.out HB1.out) HG0.out (by simp)⟩, ⟨Or.inl ⟨rfl, fun k hs hl => by rw [HHAS.out k, hs] at hl; cases hl⟩⟩⟩
    case round =>
      obtain ⟨m, left, cnt, rfl, HR, HB, HBK, HI⟩ := hrel
      have HLEFT := Aside0.mk HR.out.left_eq
      have c10 : wr.cell? ⟨w.heap.size, 1, none⟩ = some (.int .i64 a0_1) := (blk_cell HBK.out 1).trans rfl
      go_upto_if 20 with (first
        | (at_next; refine wpList_next_ranges_ii _ rfl _ rfl 3 3 .i64 .i64 law3 Try.underlying3 Try.underlying3 mb w1.heap.size 1000 _ _ _ rfl HR.out ?_ ?_)
        | go_in)
      · intro _ hl0
        have hm := SafeInv_end HI.out hl0 HLN.out.done HLN.out.cand HC.out (by omega)
        rw [HE1.out] at hm
        clear hl0
        subst hm
        have HB4 := Aside0.mk HB.out
        by_cases hq : m < 0
        · have hd : decide (m < 0) = true := decide_eq_true hq
          have HR2 : r2 = true := by rw [← HE2.out, hd]
          clear hq
          go_wp2
          go_ret2
          exact ⟨by rw [HR2]; rfl, HB4.out⟩
        · have hd : decide (m < 0) = false := decide_eq_false hq
          have HR2 : r2 = false := by rw [← HE2.out, hd]
          clear hq
          go_wp2
          go_ret2
          exact ⟨by rw [HR2]; rfl, HB4.out⟩
      · intro x c w3 cnt1 hwx hwc hlx hat hrg1 hlt hg1 hs1 hen
        have hc : c = (g x).getD 0 := by
          have h4 := (hat (.lit (.int .i64 0))).symm.trans (HATK.out x)
          injection h4 with h4
          injection h4
        have hsx : (g x).isSome = true := by rw [← HHAS.out x]; exact Maps.has_true_of_atKey hat
        have hx0 := HC.out x (HLN.out.cand x hsx)
        have hwlt : w.heap.size < w1.heap.size := Nat.lt_of_lt_of_le (blk_lt HK0.out) HB1.out.size
        have HB3 := Aside0.mk (HB.out.grown hg1 HB.out.size (fun k e => by cases e; exact Nat.le_of_lt hwlt))
        have HBK3 := Aside0.mk (blk_grown HBK.out hg1 (fun e => by injection e with e; omega))
        have c30 : w3.cell? ⟨w.heap.size, 1, none⟩ = some (.int .i64 a0_1) := (blk_cell HBK3.out 1).trans rfl
        have HRG1 := Aside0.mk hrg1
        have HLT := Aside0.mk hlt
        have HCX := Aside0.mk hc
        clear hwx hwc hlx hat hrg1 hlt hg1 hs1 hc c10
        by_cases hb : a0_1 < c
        · have hd1 : decide (c > a0_1) = true := decide_eq_true hb
          by_cases hm : m < 0
          · have hd2 : decide (m < 0) = true := decide_eq_true hm
            have HT := Aside0.mk (SafeInv_take HI.out hsx hx0 (by rw [← HCX.out]; exact hb) (Or.inl hm))
            clear hb hm hsx hx0
            go_wp2
            go_roundw
            case rel => exact ⟨x, _, cnt1, rfl, HRG1, HB3, HBK3, HT⟩
            case measure => rw [HRG1.out.left_eq, HLEFT.out]; exact HLT.out

          · have hd2 : decide (m < 0) = false := decide_eq_false hm
            by_cases hxm : x < m
            · have hd3 : decide (x < m) = true := decide_eq_true hxm
              have HT := Aside0.mk (SafeInv_take HI.out hsx hx0 (by rw [← HCX.out]; exact hb) (Or.inr hxm))
              clear hb hm hsx hx0 hxm
              go_wp2
              go_roundw
              case rel => exact ⟨x, _, cnt1, rfl, HRG1, HB3, HBK3, HT⟩
              case measure => rw [HRG1.out.left_eq, HLEFT.out]; exact HLT.out

            · have hd3 : decide (x < m) = false := decide_eq_false hxm
              have HT := Aside0.mk (SafeInv_keep HI.out hsx (fun _ => (by omega)))
              clear hb hm hsx hx0 hxm
              go_wp2
              go_roundw
              case rel => exact ⟨m, _, cnt1, rfl, HRG1, HB3, HBK3, HT⟩
              case measure => rw [HRG1.out.left_eq, HLEFT.out]; exact HLT.out

        · have hd1 : decide (c > a0_1) = false := decide_eq_false hb
          have HT := Aside0.mk (SafeInv_keep (m := m) HI.out hsx (fun q => absurd (by rw [HCX.out]; exact q) hb))
          clear hb hsx hx0
          go_wp2
          go_roundw
          case rel => exact ⟨m, _, cnt1, rfl, HRG1, HB3, HBK3, HT⟩
          case measure => rw [HRG1.out.left_eq, HLEFT.out]; exact HLT.out

  · rw [if_neg (by simp)] at h
    obtain ⟨e1, e2⟩ := Prod.mk.inj (Option.some.inj h)
    subst e1 e2
    have HP := Aside0.mk hp
    clear h hp
    have hrn := fun W : World => run_range_nilMap (P := Try.prog) W 72 3 3 Try.underlying72
    have hnx : ∀ (W : World) ty, (Instr.next (.pointer (some ⟨W.heap.size, 0, none⟩)) false ty).run Try.prog (W.alloc (.mapIter none 0 #[] 0)) = _ := fun W ty => run_next_nilMap W ty 0 0 #[]
    go_enter Try.func24, Try.ntmps24
    go_wp2_with (first
      | (go_at_call 49; (refine (loads49_bad A0_0 c0_0 l0_0 a0_1 A1 c1 l1 w0 (Kd.C_below HC0.out HB0.out) HL0.out (Kd.C_below HC1.out HB0.out) HL1.out HP.out).mono ?_); rintro e w1 ⟨rfl, hb1⟩; have HB1 := Aside0.mk hb1; clear hb1)
      | go_in)
    refine wp_loop_rounds 1 ?_
    rw [rounds_succ]
    go_wp2
    go_ret2
    exact ⟨rfl, below_alloc (below_step HB0.out HB1.out) _⟩
end Go.Proofs.Ytcldldmedphcfaa.C
