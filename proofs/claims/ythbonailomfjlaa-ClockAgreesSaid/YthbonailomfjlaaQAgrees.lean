import Derived.Test.YthbonailomfjlaaQSane
import Derived.Test.YthbonailomfjlaaFAgrees
/- ClockAgrees returns true. Conditions: whole numbers of 64 bits, and a slice as long as a machine holds. -/
namespace Go.Proofs.Ythbonailomfjlaa.C
open Go.RowKit Go.Proofs.YthbonailomfjlaaW.PrintWords Go.Proofs.YthbonailomfjlaaW.PrintLast Go.Proofs.YthbonailomfjlaaW.PrintMore
theorem cntIn_nonneg (l : List S32) (s : Int) : 0 ≤ cntIn l s := by
  induction l with
  | nil => exact Int.le_refl _
  | cons x l ih =>
    simp only [cntIn]
    split <;> omega
theorem cntIn_pos (l : List S32) (x : S32) (hx : x ∈ l) (s : Int) (h : x.f0 ≤ s ∧ s < x.f1) : 1 ≤ cntIn l s := by
  induction l with
  | nil => cases hx
  | cons y l ih =>
    have h0 := cntIn_nonneg l s
    simp only [cntIn]
    rcases List.mem_cons.1 hx with rfl | hx
    · rw [if_pos h]
      omega
    · have := ih hx
      split <;> omega
theorem in_loop (l : List S32) (s : Int) (hl : l.length ≤ 400) (m : Nat) : ∀ (i : Nat) (n : Int), i ≤ l.length → l.length - i = m → 0 ≤ n → n ≤ i → Ev (fun k => dialtonelaw05_in.l0 k l s n i) (n + cntIn (l.drop i) s) := by
  induction m with
  | zero =>
    intro i n h1 hm h2 h3
    rw [List.drop_eq_nil_of_le (by omega)]
    refine ⟨1, fun k hk => ?_⟩
    obtain ⟨k, rfl⟩ : ∃ q, k = q + 1 := ⟨k - 1, by omega⟩
    simp only [dialtonelaw05_in.l0, cntIn]
    rw [if_neg (by omega), Int.add_zero]
  | succ m ih =>
    intro i n h1 hm h2 h3
    rw [drop_rd32 l i (by omega)]
    simp only [cntIn]
    by_cases c : (rd_T32 l i).f0 ≤ s ∧ s < (rd_T32 l i).f1
    · rw [if_pos c]
      have next := ih (i + 1) (n + 1) (by omega) (by omega) (by omega) (by omega)
      rw [show n + 1 + cntIn (l.drop (i + 1)) s = n + (1 + cntIn (l.drop (i + 1)) s) by omega] at next
      refine Ev.step (f := fun k => dialtonelaw05_in.j1 k l s n i true) (fun k => ?_) (Ev.step (fun k => ?_) next)
      · simp only [dialtonelaw05_in.l0]
        rw [if_pos (by omega), if_pos (by omega), if_pos c.1, decide_eq_true c.2]
      · simp only [dialtonelaw05_in.j1, if_true]
        rw [wrap64_id (n + 1) (by omega) (by omega), wrap64_id ((i : Int) + 1) (by omega) (by omega)]
        rfl
    · rw [if_neg c]
      have next := ih (i + 1) n (by omega) (by omega) (by omega) (by omega)
      rw [show n + (0 + cntIn (l.drop (i + 1)) s) = n + cntIn (l.drop (i + 1)) s by omega]
      refine Ev.step (f := fun k => dialtonelaw05_in.j1 k l s n i false) (fun k => ?_) (Ev.step (fun k => ?_) next)
      · simp only [dialtonelaw05_in.l0]
        rw [if_pos (by omega), if_pos (by omega)]
        split
        · rename_i q
          rw [decide_eq_false (fun h => c ⟨q, h⟩)]
        · rfl
      · simp only [dialtonelaw05_in.j1]
        rw [if_neg (by simp), wrap64_id ((i : Int) + 1) (by omega) (by omega)]
        rfl
theorem in_ok (l : List S32) (s : Int) (hl : l.length ≤ 400) : Ev (fun k => dialtonelaw05_in.f k l s) (cntIn l s) := by
  have := in_loop l s hl l.length 0 0 (by omega) rfl (by omega) (by omega)
  rw [Int.zero_add, List.drop_zero] at this
  exact this
section
variable (l : List S32) (hl : l.length ≤ 400) (a b c : Int) (hA : AgreeIs l a b c)
include hl hA
theorem agrees_l2 (xs : List Int) (hx : xs.length ≤ 2000) (hc : 0 < c) (m : Nat) : ∀ i : Nat, i ≤ xs.length → xs.length - i = m → Ev (fun k => dialtonelaw05_agrees.l2 k l c xs i a b) true := by
  obtain ⟨h1, h2, h3, h4⟩ := hA
  obtain ⟨g1, g2, g3, g4⟩ := h4 hc
  induction m with
  | zero =>
    intro i hi hm
    refine ⟨1, fun k hk => ?_⟩
    obtain ⟨k, rfl⟩ : ∃ q, k = q + 1 := ⟨k - 1, by omega⟩
    simp only [dialtonelaw05_agrees.l2]
    rw [if_neg (by omega)]
  | succ m ih =>
    intro i hi hm
    have next := ih (i + 1) (by omega) (by omega)
    obtain ⟨x, hxx⟩ : ∃ x, rd xs (i : Int) = x := ⟨_, rfl⟩
    have q1 := h1 x
    have q2 := g2 x
    have q3 := g3 x
    refine Ev.step (fun k => ?_) (Ev.bind (in_ok l x hl) (f := fun k t389 => (if a ≤ x then (if t389 > c then (none) else (if x < b then (if t389 = c then (if x < a then (none) else (dialtonelaw05_agrees.l2 k l c xs (wrap64 ((i : Int) + 1)) a b)) else (none)) else (if x < a then (if t389 = c then (none) else (dialtonelaw05_agrees.l2 k l c xs (wrap64 ((i : Int) + 1)) a b)) else (dialtonelaw05_agrees.l2 k l c xs (wrap64 ((i : Int) + 1)) a b)))) else (if t389 > c then (none) else (if x < a then (if t389 = c then (none) else (dialtonelaw05_agrees.l2 k l c xs (wrap64 ((i : Int) + 1)) a b)) else (dialtonelaw05_agrees.l2 k l c xs (wrap64 ((i : Int) + 1)) a b))))) ?_)
    · simp only [dialtonelaw05_agrees.l2]
      rw [if_pos (by omega), if_pos (by omega), hxx]
    · refine Ev.congr (fun k => ?_) next
      rw [wrap64_id ((i : Int) + 1) (by omega) (by omega)]
      generalize cntIn l x = n at *
      by_cases e1 : a ≤ x
      · rw [if_pos e1, if_neg (by omega), if_neg (show ¬ x < a by omega), if_neg (show ¬ x < a by omega)]
        by_cases e2 : x < b
        · rw [if_pos e2, if_pos (q3 e1 e2)]
          rfl
        · rw [if_neg e2]
          rfl
      · have := q2 (by omega)
        rw [if_neg e1, if_neg (by omega), if_pos (by omega), if_neg (by omega)]
        rfl
theorem agrees_l1 (hc : c = 0) (m : Nat) : ∀ i : Nat, i ≤ l.length → l.length - i = m → Ev (fun k => dialtonelaw05_agrees.l1 k l i a b) true := by
  obtain ⟨h1, h2, h3, h4⟩ := hA
  obtain ⟨g1, g2⟩ := h3 hc
  induction m with
  | zero =>
    intro i hi hm
    refine ⟨1, fun k hk => ?_⟩
    obtain ⟨k, rfl⟩ : ∃ q, k = q + 1 := ⟨k - 1, by omega⟩
    simp only [dialtonelaw05_agrees.l1]
    rw [if_neg (by omega), g1, g2]
    rfl
  | succ m ih =>
    intro i hi hm
    have next := ih (i + 1) (by omega) (by omega)
    have hmem : rd_T32 l i ∈ l := by
      have := drop_rd32 l i (by omega)
      exact List.mem_of_mem_drop (by rw [this]; exact List.mem_cons_self ..)
    refine Ev.step (fun k => ?_) next
    simp only [dialtonelaw05_agrees.l1]
    have hn : ¬ (rd_T32 l i).f0 < (rd_T32 l i).f1 := by
      intro h
      have p1 := cntIn_pos l _ hmem (rd_T32 l i).f0 ⟨Int.le_refl _, h⟩
      have p2 := h1 (rd_T32 l i).f0
      omega
    rw [if_pos (by omega), if_pos (by omega), if_neg hn, wrap64_id ((i : Int) + 1) (by omega) (by omega)]
    rfl
theorem agrees_l0 (m : Nat) : ∀ (i : Nat) (xs : List Int), i ≤ l.length → l.length - i = m → xs.length = 1 + 2 * i → Ev (fun k => dialtonelaw05_agrees.l0 k l c xs i a b) true := by
  have hA' := hA
  obtain ⟨h1, h2, h3, h4⟩ := hA
  induction m with
  | zero =>
    intro i xs hi hm hx
    by_cases hc : c = 0
    · refine Ev.step (fun k => ?_) (agrees_l1 l hl a b c hA' hc l.length 0 (by omega) rfl)
      simp only [dialtonelaw05_agrees.l0]
      rw [if_neg (by omega), if_pos hc]
      rfl
    · obtain ⟨g1, g2, g3, g4⟩ := h4 (by omega)
      have last : Ev (fun k => dialtonelaw05_agrees.j2 k l c xs false a b) true := by
        refine Ev.step (fun k => ?_) (agrees_l2 l hl a b c hA' xs (by omega) (by omega) xs.length 0 (by omega) rfl)
        simp only [dialtonelaw05_agrees.j2]
        rw [if_neg (by simp)]
        rfl
      refine Ev.step (fun k => ?_) (Ev.bind (in_ok l a hl) (f := fun k t386 => (if t386 = c then ((dialtonelaw05_in.f k l b).bind fun t387 => (dialtonelaw05_agrees.j2 k l c xs (decide (t387 ≥ c)) a b)) else (dialtonelaw05_agrees.j2 k l c xs true a b))) ?_)
      · simp only [dialtonelaw05_agrees.l0]
        rw [if_neg (by omega), if_neg hc, if_neg (by omega), if_neg (by omega)]
      · simp only [if_pos (g3 a (Int.le_refl _) g1)]
        refine Ev.bind (in_ok l b hl) ?_
        rw [decide_eq_false (by omega)]
        exact last
  | succ m ih =>
    intro i xs hi hm hx
    refine Ev.step (fun k => ?_) (ih (i + 1) (xs ++ [(rd_T32 l i).f0, (rd_T32 l i).f1]) (by omega) (by omega) (by simp; omega))
    simp only [dialtonelaw05_agrees.l0, Option.bind_some]
    rw [if_pos (by omega), if_pos (by omega), if_pos (by simp; omega), wrap64_id ((i : Int) + 1) (by omega) (by omega)]
    rfl
end
theorem agrees_ok (l : List S32) (hl : l.length ≤ 400) (s : Int) : Ev (fun k => dialtonelaw05_agrees.f k l s) true := by
  obtain ⟨a, b, c, h1, h2⟩ := agree_ok l hl
  unfold dialtonelaw05_agrees.f
  exact Ev.bind h1 (agrees_l0 l hl a b c h2 l.length 0 [s] (by omega) rfl rfl)
theorem cagrees_loop (l : List S32) (s : Int) (hs : I64 s) (hl : l.length ≤ 12) (hI : ∀ x, x ∈ l → I64 x.f0 ∧ I64 x.f1) (m : Nat) : ∀ (i : Nat) (near : List S32), i ≤ l.length → l.length - i = m → near.length = i → Ev (fun k => dialtonelaw05_ClockAgrees.l0 k l s near i) true := by
  obtain ⟨p1, p2, p3⟩ := pick_ok s 42 hs (by omega)
  induction m with
  | zero =>
    intro i near hi hm hn
    refine Ev.step (fun k => ?_) (Ev.bind (agrees_ok l (by omega) s) (f := fun k t407 => (if t407 = true then ((dialtonelaw05_pick.f s 42).bind fun t408 => ((dialtonelaw05_agrees.f k near (wrap64 (t408 - 1))).bind fun t409 => (some t409))) else (none))) ?_)
    · simp only [dialtonelaw05_ClockAgrees.l0]
      rw [if_neg (by omega)]
    · simp only [if_true]
      rw [p1]
      simp only [Option.bind_some]
      exact Ev.bind (agrees_ok near (by omega) _) (Ev.now true)
  | succ m ih =>
    intro i near hi hm hn
    have hmem : rd_T32 l i ∈ l := by
      have := drop_rd32 l i (by omega)
      exact List.mem_of_mem_drop (by rw [this]; exact List.mem_cons_self ..)
    obtain ⟨g0, g1⟩ := hI _ hmem
    obtain ⟨q1, q2, q3⟩ := pick_ok _ 40 g0 (by omega)
    obtain ⟨r1, r2, r3⟩ := pick_ok _ 40 g1 (by omega)
    refine Ev.step (fun k => ?_) (ih (i + 1) (near ++ [⟨pk (rd_T32 l i).f0 40, pk (rd_T32 l i).f1 40⟩]) (by omega) (by omega) (by simp; omega))
    simp only [dialtonelaw05_ClockAgrees.l0]
    rw [if_pos (by omega), if_pos (by omega), q1, r1]
    simp only [Option.bind_some]
    rw [if_pos (by omega), wrap64_id ((i : Int) + 1) (by omega) (by omega)]
    rfl
theorem clockAgrees_ok (l : List S32) (s : Int) (hI : ∀ x, x ∈ l → I64 x.f0 ∧ I64 x.f1) (hlen : l.length * 16 ≤ 140737488351232) (hs : I64 s) : Ev (fun k => dialtonelaw05_ClockAgrees.f k l s) true := by
  unfold dialtonelaw05_ClockAgrees.f
  refine Ev.bind sane_ok ?_
  simp only [if_true]
  have hmn : 0 ≤ mn (l.length : Int) 12 ∧ mn (l.length : Int) 12 ≤ l.length ∧ mn (l.length : Int) 12 ≤ 12 := by
    unfold mn
    split <;> omega
  simp only [if_pos hmn.1, if_pos hmn.2.1]
  have hlen2 : (l.take (mn (l.length : Int) 12).toNat).length ≤ 12 := by
    rw [List.length_take]
    omega
  exact cagrees_loop _ s hs hlen2 (fun x hx => hI x (List.mem_of_mem_take hx)) _ 0 [] (by omega) rfl rfl
end Go.Proofs.Ythbonailomfjlaa.C
