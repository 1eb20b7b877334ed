import Derived.Test.YthbonailomfjlaaQAgree
import Derived.Test.YthbonailomfjlaaCRefAgree
/- The reference's Agree returns the same as the package's. Condition: at most 400 spells. -/
namespace Go.Proofs.Ythbonailomfjlaa.C
open Go.RowKit Go.Proofs.YthbonailomfjlaaW.PrintWords Go.Proofs.YthbonailomfjlaaW.PrintLast Go.Proofs.YthbonailomfjlaaW.PrintMore
theorem cnt_nonneg (l : List S32) (s : Int) : 0 ≤ cntIn l s := by
  induction l with
  | nil => exact Int.le_refl _
  | cons x l ih =>
    simp only [cntIn]
    split <;> omega
theorem cnt_le_of (l : List S32) (s s' : Int) (h : ∀ y, y ∈ l → (y.f0 ≤ s ∧ s < y.f1) → (y.f0 ≤ s' ∧ s' < y.f1)) : cntIn l s ≤ cntIn l s' := by
  induction l with
  | nil => exact Int.le_refl _
  | cons x l ih =>
    have h1 := h x (List.mem_cons_self ..)
    have h2 := ih (fun y hy => h y (List.mem_cons_of_mem _ hy))
    simp only [cntIn]
    by_cases c : x.f0 ≤ s ∧ s < x.f1
    · rw [if_pos c, if_pos (h1 c)]
      omega
    · rw [if_neg c]
      split <;> omega
theorem cnt_max_in (l : List S32) (s : Int) (h : 0 < cntIn l s) : ∃ x, x ∈ l ∧ (x.f0 ≤ s ∧ s < x.f1) ∧ ∀ y, y ∈ l → (y.f0 ≤ s ∧ s < y.f1) → y.f0 ≤ x.f0 := by
  induction l with
  | nil =>
    simp only [cntIn] at h
    omega
  | cons x l ih =>
    by_cases h0 : 0 < cntIn l s
    · obtain ⟨z, h1, h2, h3⟩ := ih h0
      by_cases c : (x.f0 ≤ s ∧ s < x.f1) ∧ z.f0 ≤ x.f0
      · refine ⟨x, List.mem_cons_self .., c.1, fun y hy hc => ?_⟩
        rcases List.mem_cons.1 hy with rfl | hy
        · exact Int.le_refl _
        · have := h3 y hy hc
          omega
      · refine ⟨z, List.mem_cons_of_mem _ h1, h2, fun y hy hc => ?_⟩
        rcases List.mem_cons.1 hy with rfl | hy
        · omega
        · exact h3 y hy hc
    · have hz := cnt_nonneg l s
      simp only [cntIn] at h
      by_cases c : x.f0 ≤ s ∧ s < x.f1
      · refine ⟨x, List.mem_cons_self .., c, fun y hy hc => ?_⟩
        rcases List.mem_cons.1 hy with rfl | hy
        · exact Int.le_refl _
        · have : 1 ≤ cntIn l s := by
            clear h ih h0 hz
            induction l with
            | nil => cases hy
            | cons w l ih2 =>
              have h0 := cnt_nonneg l s
              simp only [cntIn]
              rcases List.mem_cons.1 hy with rfl | hy2
              · rw [if_pos hc]
                omega
              · have := ih2 (List.mem_cons_of_mem _ hy2) hy2
                split <;> omega
          omega
      · rw [if_neg c] at h
        omega
theorem mem_rd32 (l : List S32) (x : S32) (h : x ∈ l) : ∃ j : Nat, j < l.length ∧ rd_T32 l j = x := by
  obtain ⟨j, hj, e⟩ := List.getElem_of_mem h
  refine ⟨j, hj, ?_⟩
  unfold rd_T32
  rw [show (j : Int).toNat = j by omega]
  simp [List.getD, hj, e]
theorem rd_mem32 (l : List S32) (j : Nat) (h : j < l.length) : rd_T32 l j ∈ l := by
  unfold rd_T32
  rw [show (j : Int).toNat = j by omega, show l.getD j z32 = l[j] by simp [List.getD, h]]
  exact List.getElem_mem h
/-- The most is attained where a spell begins. -/
theorem cnt_from (l : List S32) (s : Int) (h : 0 < cntIn l s) : ∃ j : Nat, j < l.length ∧ (rd_T32 l j).f0 ≤ s ∧ cntIn l s ≤ cntIn l (rd_T32 l j).f0 := by
  obtain ⟨x, h1, h2, h3⟩ := cnt_max_in l s h
  obtain ⟨j, hj, e⟩ := mem_rd32 l x h1
  refine ⟨j, hj, by rw [e]; exact h2.1, ?_⟩
  rw [e]
  refine cnt_le_of l s x.f0 (fun y hy hc => ⟨h3 y hy hc, ?_⟩)
  omega
theorem inside_loop (l : List S32) (s : Int) (hl : l.length ≤ 400) (m : Nat) : ∀ (i : Nat) (n : Int), i ≤ l.length → l.length - i = m → 0 ≤ n → n ≤ i → Ev (fun k => dialtoneref05_Inside.l0 k l s n i) (n + cntIn (l.drop i) s) := by
  induction m with
  | zero =>
    intro i n h1 hm h2 h3
    rw [List.drop_eq_nil_of_le (by omega)]
    refine ⟨1, fun k hk => ?_⟩
    obtain ⟨k, rfl⟩ : ∃ q, k = q + 1 := ⟨k - 1, by omega⟩
    simp only [dialtoneref05_Inside.l0, cntIn]
    rw [if_neg (by omega), Int.add_zero]
  | succ m ih =>
    intro i n h1 hm h2 h3
    rw [drop_rd32 l i (by omega)]
    simp only [cntIn]
    by_cases c : (rd_T32 l i).f0 ≤ s ∧ s < (rd_T32 l i).f1
    · rw [if_pos c]
      have next := ih (i + 1) (n + 1) (by omega) (by omega) (by omega) (by omega)
      rw [show n + 1 + cntIn (l.drop (i + 1)) s = n + (1 + cntIn (l.drop (i + 1)) s) by omega] at next
      refine Ev.step (f := fun k => dialtoneref05_Inside.j1 k l s n i true) (fun k => ?_) (Ev.step (fun k => ?_) next)
      · simp only [dialtoneref05_Inside.l0]
        rw [if_pos (by omega), if_pos (by omega), if_pos c.1, decide_eq_true c.2]
      · simp only [dialtoneref05_Inside.j1, if_true]
        rw [wrap64_id (n + 1) (by omega) (by omega), wrap64_id ((i : Int) + 1) (by omega) (by omega)]
        rfl
    · rw [if_neg c]
      have next := ih (i + 1) n (by omega) (by omega) (by omega) (by omega)
      rw [show n + (0 + cntIn (l.drop (i + 1)) s) = n + cntIn (l.drop (i + 1)) s by omega]
      refine Ev.step (f := fun k => dialtoneref05_Inside.j1 k l s n i false) (fun k => ?_) (Ev.step (fun k => ?_) next)
      · simp only [dialtoneref05_Inside.l0]
        rw [if_pos (by omega), if_pos (by omega)]
        split
        · rename_i q
          rw [decide_eq_false (fun h => c ⟨q, h⟩)]
        · rfl
      · simp only [dialtoneref05_Inside.j1]
        rw [if_neg (by simp), wrap64_id ((i : Int) + 1) (by omega) (by omega)]
        rfl
theorem inside_ok (l : List S32) (s : Int) (hl : l.length ≤ 400) : Ev (fun k => dialtoneref05_Inside.f k l s) (cntIn l s) := by
  have := inside_loop l s hl l.length 0 0 (by omega) rfl (by omega) (by omega)
  rw [Int.zero_add, List.drop_zero] at this
  exact this
def ed (l : List S32) : List Int := l.map (fun x => x.f0) ++ l.map (fun x => x.f1)
theorem countP_less (p q : Int → Bool) (xs : List Int) (hpq : ∀ x, q x = true → p x = true) (e : Int) (he : e ∈ xs) (hp : p e = true) (hq : q e = false) : xs.countP q < xs.countP p := by
  induction xs with
  | nil => cases he
  | cons x xs ih =>
    have hle : xs.countP q ≤ xs.countP p := List.countP_mono_left (fun x _ h => hpq x h)
    simp only [List.countP_cons]
    rcases List.mem_cons.1 he with rfl | he
    · rw [hp, hq]
      simp
      omega
    · have := ih he
      have h1 := hpq x
      cases hx : q x
      · cases p x <;> simp <;> omega
      · rw [h1 hx]
        simp
        omega
section
variable (l : List S32) (hl : l.length ≤ 400) (c a : Int)
/-- The least end of a spell behind a second, among the first spells. -/
def Nx (l : List S32) (u : Int) (i : Nat) (x : Int) : Prop :=
  (x = u ∧ ∀ j : Nat, j < i → (rd_T32 l j).f0 ≤ u ∧ (rd_T32 l j).f1 ≤ u) ∨
  (u < x ∧ x ∈ ed l ∧ ∀ j : Nat, j < i → ((rd_T32 l j).f0 ≤ u ∨ x ≤ (rd_T32 l j).f0) ∧ ((rd_T32 l j).f1 ≤ u ∨ x ≤ (rd_T32 l j).f1))
theorem mem_ed0 (i : Nat) (h : i < l.length) : (rd_T32 l i).f0 ∈ ed l := List.mem_append_left _ (List.mem_map_of_mem (f := fun x : S32 => x.f0) (rd_mem32 l i h))
theorem mem_ed1 (i : Nat) (h : i < l.length) : (rd_T32 l i).f1 ∈ ed l := List.mem_append_right _ (List.mem_map_of_mem (f := fun x : S32 => x.f1) (rd_mem32 l i h))
theorem nx_next (u : Int) (i : Nat) (hi : i < l.length) (x : Int) (h : Nx l u i x) :
    Nx l u (i + 1) (if (if (rd_T32 l i).f0 > u ∧ (x = u ∨ (rd_T32 l i).f0 < x) then (rd_T32 l i).f0 else x) = u ∧ (rd_T32 l i).f1 > u ∨ (rd_T32 l i).f1 > u ∧ (rd_T32 l i).f1 < (if (rd_T32 l i).f0 > u ∧ (x = u ∨ (rd_T32 l i).f0 < x) then (rd_T32 l i).f0 else x) then (rd_T32 l i).f1 else (if (rd_T32 l i).f0 > u ∧ (x = u ∨ (rd_T32 l i).f0 < x) then (rd_T32 l i).f0 else x)) := by
  have e0 := mem_ed0 l i hi
  have e1 := mem_ed1 l i hi
  obtain ⟨f, hf⟩ : ∃ f, (rd_T32 l i).f0 = f := ⟨_, rfl⟩
  obtain ⟨g, hg⟩ : ∃ g, (rd_T32 l i).f1 = g := ⟨_, rfl⟩
  rw [hf] at e0 ⊢
  rw [hg] at e1 ⊢
  -- the first end
  have h1 : ∃ y, (if f > u ∧ (x = u ∨ f < x) then f else x) = y ∧ ((y = u ∧ f ≤ u ∧ ∀ j : Nat, j < i → (rd_T32 l j).f0 ≤ u ∧ (rd_T32 l j).f1 ≤ u) ∨
      (u < y ∧ y ∈ ed l ∧ (f ≤ u ∨ y ≤ f) ∧ ∀ j : Nat, j < i → ((rd_T32 l j).f0 ≤ u ∨ y ≤ (rd_T32 l j).f0) ∧ ((rd_T32 l j).f1 ≤ u ∨ y ≤ (rd_T32 l j).f1))) := by
    refine ⟨_, rfl, ?_⟩
    by_cases q : f > u ∧ (x = u ∨ f < x)
    · rw [if_pos q]
      refine Or.inr ⟨q.1, e0, Or.inr (Int.le_refl _), fun j hj => ?_⟩
      rcases h with ⟨_, h⟩ | ⟨h0, _, h⟩
      · have := h j hj
        omega
      · have := h j hj
        omega
    · rw [if_neg q]
      rcases h with ⟨h0, h⟩ | ⟨h0, h5, h⟩
      · exact Or.inl ⟨h0, by omega, h⟩
      · exact Or.inr ⟨h0, h5, by omega, h⟩
  obtain ⟨y, hy, hy2⟩ := h1
  rw [hy]
  have last : ∀ z, ((z = u ∧ (f ≤ u ∧ g ≤ u) ∧ ∀ j : Nat, j < i → (rd_T32 l j).f0 ≤ u ∧ (rd_T32 l j).f1 ≤ u) ∨
      (u < z ∧ z ∈ ed l ∧ ((f ≤ u ∨ z ≤ f) ∧ (g ≤ u ∨ z ≤ g)) ∧ ∀ j : Nat, j < i → ((rd_T32 l j).f0 ≤ u ∨ z ≤ (rd_T32 l j).f0) ∧ ((rd_T32 l j).f1 ≤ u ∨ z ≤ (rd_T32 l j).f1))) → Nx l u (i + 1) z := by
    intro z hz
    rcases hz with ⟨z0, z1, z2⟩ | ⟨z0, z1, z2, z3⟩
    · refine Or.inl ⟨z0, fun j hj => ?_⟩
      by_cases e : j = i
      · subst e
        rw [hf, hg]
        exact z1
      · exact z2 j (by omega)
    · refine Or.inr ⟨z0, z1, fun j hj => ?_⟩
      by_cases e : j = i
      · subst e
        rw [hf, hg]
        exact z2
      · exact z3 j (by omega)
  refine last _ ?_
  by_cases q : y = u ∧ g > u ∨ g > u ∧ g < y
  · rw [if_pos q]
    refine Or.inr ⟨by omega, e1, ⟨?_, Or.inr (Int.le_refl _)⟩, fun j hj => ?_⟩
    · rcases hy2 with ⟨h0, h1, h⟩ | ⟨h0, _, h1, h⟩ <;> omega
    · rcases hy2 with ⟨h0, h1, h⟩ | ⟨h0, _, h1, h⟩
      · have := h j hj
        omega
      · have := h j hj
        omega
  · rw [if_neg q]
    rcases hy2 with ⟨h0, h1, h⟩ | ⟨h0, h5, h1, h⟩
    · exact Or.inl ⟨h0, ⟨h1, by omega⟩, h⟩
    · exact Or.inr ⟨h0, h5, ⟨h1, by omega⟩, h⟩
include hl
theorem ragree_l2 (u : Int) (R : Int × Int × Int) (fin : ∀ x, Nx l u l.length x → Ev (fun k => dialtoneref05_Agree.l1 k l c a x) R) (m : Nat) : ∀ (i : Nat) (x : Int), i ≤ l.length → l.length - i = m → Nx l u i x → Ev (fun k => dialtoneref05_Agree.l2 k l c a u x i) R := by
  induction m with
  | zero =>
    intro i x hi hm hx
    have e : i = l.length := by omega
    subst e
    refine Ev.step (fun k => ?_) (fin x hx)
    simp only [dialtoneref05_Agree.l2]
    rw [if_neg (by omega)]
  | succ m ih =>
    intro i x hi hm hx
    have next := ih (i + 1) _ (by omega) (by omega) (nx_next l u i (by omega) x hx)
    obtain ⟨f, hf⟩ : ∃ f, (rd_T32 l i).f0 = f := ⟨_, rfl⟩
    obtain ⟨g, hg⟩ : ∃ g, (rd_T32 l i).f1 = g := ⟨_, rfl⟩
    rw [hf, hg] at next
    obtain ⟨y, hy⟩ : ∃ y, (if f > u ∧ (x = u ∨ f < x) then f else x) = y := ⟨_, rfl⟩
    rw [hy] at next
    have s6 : ∀ b : Bool, (b = true ↔ (y = u ∧ g > u ∨ g > u ∧ g < y)) → Ev (fun k => dialtoneref05_Agree.j6 k l c a u y i b) R := by
      intro b hb
      refine Ev.step (fun k => ?_) next
      simp only [dialtoneref05_Agree.j6]
      by_cases q : y = u ∧ g > u ∨ g > u ∧ g < y
      · rw [if_pos (hb.2 q), if_pos q, if_pos (by omega), if_pos (by omega), hg, wrap64_id ((i : Int) + 1) (by omega) (by omega)]
        rfl
      · rw [if_neg (fun h => q (hb.1 h)), if_neg q, wrap64_id ((i : Int) + 1) (by omega) (by omega)]
        rfl
    have s5 : Ev (fun k => dialtoneref05_Agree.j5 k l c a u y i) R := by
      by_cases q1 : g > u
      · by_cases q2 : y = u
        · refine Ev.step (fun k => ?_) (s6 true (by simp only [true_iff]; omega))
          simp only [dialtoneref05_Agree.j5]
          rw [if_pos (by omega), if_pos (by omega), hg, if_pos q1, if_pos q2]
        · refine Ev.step (fun k => ?_) (s6 (decide (g < y)) (by rw [decide_eq_true_eq]; omega))
          simp only [dialtoneref05_Agree.j5]
          rw [if_pos (by omega), if_pos (by omega), hg, if_pos q1, if_neg q2]
      · refine Ev.step (fun k => ?_) (s6 false (by simp only [Bool.false_eq_true, false_iff]; omega))
        simp only [dialtoneref05_Agree.j5]
        rw [if_pos (by omega), if_pos (by omega), hg, if_neg q1]
    have s4 : ∀ b : Bool, (b = true ↔ (f > u ∧ (x = u ∨ f < x))) → Ev (fun k => dialtoneref05_Agree.j4 k l c a u x i b) R := by
      intro b hb
      refine Ev.step (fun k => ?_) s5
      simp only [dialtoneref05_Agree.j4]
      by_cases q : f > u ∧ (x = u ∨ f < x)
      · rw [if_pos q] at hy
        rw [if_pos (hb.2 q), if_pos (by omega), if_pos (by omega), hf, hy]
      · rw [if_neg q] at hy
        rw [if_neg (fun h => q (hb.1 h)), hy]
    by_cases q1 : f > u
    · by_cases q2 : x = u
      · refine Ev.step (fun k => ?_) (s4 true (by simp only [true_iff]; omega))
        simp only [dialtoneref05_Agree.l2]
        rw [if_pos (by omega), if_pos (by omega), hf, if_pos q1, if_pos q2]
      · refine Ev.step (fun k => ?_) (s4 (decide (f < x)) (by rw [decide_eq_true_eq]; omega))
        simp only [dialtoneref05_Agree.l2]
        rw [if_pos (by omega), if_pos (by omega), hf, if_pos q1, if_neg q2]
    · refine Ev.step (fun k => ?_) (s4 false (by simp only [Bool.false_eq_true, false_iff]; omega))
      simp only [dialtoneref05_Agree.l2]
      rw [if_pos (by omega), if_pos (by omega), hf, if_neg q1]
theorem ragree_l1 (hc : 0 < c) (hmax : ∀ s, cntIn l s ≤ c) (hmin : ∀ s, s < a → cntIn l s < c) (ha : cntIn l a = c) (m : Nat) : ∀ u : Int, a ≤ u → (∀ s, a ≤ s → s < u → cntIn l s = c) → (ed l).countP (fun e => decide (u < e)) ≤ m →
    ∃ b, Ev (fun k => dialtoneref05_Agree.l1 k l c a u) (a, b, c) ∧ AgreeIs l a b c := by
  have fin : ∀ u : Int, a ≤ u → (∀ s, a ≤ s → s < u → cntIn l s = c) → cntIn l u ≠ c → ∃ b, Ev (fun k => dialtoneref05_Agree.l1 k l c a u) (a, b, c) ∧ AgreeIs l a b c := by
    intro u h1 h2 h3
    refine ⟨u, Ev.step (fun k => ?_) (Ev.bind (inside_ok l u hl) (f := fun k t171 => (if t171 = c then (dialtoneref05_Agree.l2 k l c a u u 0) else (some (a, u, c)))) ⟨0, fun k _ => ?_⟩), hmax, by omega, fun h => by omega, fun _ => ⟨?_, hmin, h2, ?_⟩⟩
    · simp only [dialtoneref05_Agree.l1]
    · simp only [if_neg h3]
    · rcases Int.lt_or_eq_of_le h1 with h | h
      · exact h
      · rw [h] at ha
        exact absurd ha h3
    · have := hmax u
      omega
  induction m with
  | zero =>
    intro u h1 h2 hm
    refine fin u h1 h2 (fun h => ?_)
    obtain ⟨x, g1, g2, _⟩ := cnt_max_in l u (by omega)
    have : 0 < (ed l).countP (fun e => decide (u < e)) := List.countP_pos_iff.2 ⟨x.f1, List.mem_append_right _ (List.mem_map_of_mem (f := fun x : S32 => x.f1) g1), decide_eq_true g2.2⟩
    omega
  | succ m ih =>
    intro u h1 h2 hm
    by_cases h : cntIn l u = c
    · obtain ⟨x, g1, g2, _⟩ := cnt_max_in l u (by omega)
      obtain ⟨jx, hjx, ex⟩ := mem_rd32 l x g1
      -- wherever the search for the next end ends, the rest goes on from there
      have step : ∀ z, Nx l u l.length z → ∃ b, Ev (fun k => dialtoneref05_Agree.l1 k l c a z) (a, b, c) ∧ AgreeIs l a b c := by
        intro z hz
        rcases hz with ⟨_, z2⟩ | ⟨z0, z1, z3⟩
        · have := (z2 jx hjx).2
          rw [ex] at this
          omega
        · refine ih z (by omega) (fun s s1 s2 => ?_) ?_
          · by_cases q : s < u
            · exact h2 s s1 q
            · have e1 : cntIn l s ≤ cntIn l u := cnt_le_of l s u (fun y hy hc => by
                obtain ⟨j, hj, e⟩ := mem_rd32 l y hy
                have := z3 j hj
                rw [e] at this
                omega)
              have e2 : cntIn l u ≤ cntIn l s := cnt_le_of l u s (fun y hy hc => by
                obtain ⟨j, hj, e⟩ := mem_rd32 l y hy
                have := z3 j hj
                rw [e] at this
                omega)
              omega
          · have := countP_less (fun e => decide (u < e)) (fun e => decide (z < e)) (ed l) (fun e he => by
              rw [decide_eq_true_eq] at he ⊢
              omega) z z1 (decide_eq_true z0) (decide_eq_false (by omega))
            omega
      -- where it ends is one second
      have one : ∀ i : Nat, i ≤ l.length → ∃ z, Nx l u i z := by
        intro i
        induction i with
        | zero => intro _; exact ⟨u, Or.inl ⟨rfl, fun j hj => by omega⟩⟩
        | succ i ih2 =>
          intro hi
          obtain ⟨z, hz⟩ := ih2 (by omega)
          exact ⟨_, nx_next l u i (by omega) z hz⟩
      obtain ⟨z, hz⟩ := one l.length (Nat.le_refl _)
      obtain ⟨b, b1, b2⟩ := step z hz
      refine ⟨b, ?_, b2⟩
      refine Ev.step (fun k => ?_) (Ev.bind (inside_ok l u hl) (f := fun k t171 => (if t171 = c then (dialtoneref05_Agree.l2 k l c a u u 0) else (some (a, u, c)))) ?_)
      · simp only [dialtoneref05_Agree.l1]
      · simp only [if_pos h]
        refine ragree_l2 l hl c a u (a, b, c) (fun z' hz' => ?_) l.length 0 u (by omega) rfl (Or.inl ⟨rfl, fun j hj => by omega⟩)
        obtain ⟨b', c1, c2⟩ := step z' hz'
        rw [(b2.unique c2).2.1]
        exact c1
    · exact fin u h1 h2 h
end
theorem ragree_l0 (l : List S32) (hl : l.length ≤ 400) (m : Nat) : ∀ (i : Nat) (c a : Int), i ≤ l.length → l.length - i = m → 0 ≤ c → (∀ j : Nat, j < i → cntIn l (rd_T32 l j).f0 ≤ c) → (0 < c → cntIn l a = c ∧ ∀ j : Nat, j < i → cntIn l (rd_T32 l j).f0 = c → a ≤ (rd_T32 l j).f0) →
    ∃ a' b' c', Ev (fun k => dialtoneref05_Agree.l0 k l c a i) (a', b', c') ∧ AgreeIs l a' b' c' := by
  induction m with
  | zero =>
    intro i c a hi hm h0 h1 h2
    have e : i = l.length := by omega
    subst e
    have hmax : ∀ s, cntIn l s ≤ c := by
      intro s
      by_cases q : 0 < cntIn l s
      · obtain ⟨j, hj, _, h4⟩ := cnt_from l s q
        have := h1 j hj
        omega
      · omega
    by_cases hc : c = 0
    · refine ⟨0, 0, 0, ⟨1, fun k hk => ?_⟩, by rw [← hc]; exact hmax, Int.le_refl _, fun _ => ⟨rfl, rfl⟩, fun h => by omega⟩
      obtain ⟨k, rfl⟩ : ∃ q, k = q + 1 := ⟨k - 1, by omega⟩
      simp only [dialtoneref05_Agree.l0]
      rw [if_neg (by omega), if_pos hc]
    · obtain ⟨g1, g2⟩ := h2 (by omega)
      obtain ⟨b, b1, b2⟩ := ragree_l1 l hl c a (by omega) hmax (fun s hs => by
        have := hmax s
        rcases Int.lt_or_eq_of_le this with q | q
        · exact q
        · obtain ⟨j, hj, h3, h4⟩ := cnt_from l s (by omega)
          have h5 := h1 j hj
          have := g2 j hj (by omega)
          omega) g1 _ a (Int.le_refl _) (fun s h1 h2 => by omega) (Nat.le_refl _)
      refine ⟨a, b, c, Ev.step (fun k => ?_) b1, b2⟩
      simp only [dialtoneref05_Agree.l0]
      rw [if_neg (by omega), if_neg hc]
  | succ m ih =>
    intro i c a hi hm h0 h1 h2
    obtain ⟨f, hf⟩ : ∃ f, (rd_T32 l i).f0 = f := ⟨_, rfl⟩
    have hn0 := cnt_nonneg l f
    obtain ⟨n, hn⟩ : ∃ n, cntIn l f = n := ⟨_, rfl⟩
    rw [hn] at hn0
    have first : ∀ {R : Int × Int × Int} {b : Bool}, (b = decide (n > c ∨ n = c ∧ f < a)) → Ev (fun k => dialtoneref05_Agree.j1 k l c a i n b) R → Ev (fun k => dialtoneref05_Agree.l0 k l c a i) R := by
      intro R b hb hj
      refine Ev.step (fun k => ?_) (Ev.bind (inside_ok l f hl) (f := fun k t168 => (if t168 > c then (dialtoneref05_Agree.j1 k l c a i t168 true) else (if t168 = c then (dialtoneref05_Agree.j1 k l c a i t168 (decide (f < a))) else (dialtoneref05_Agree.j1 k l c a i t168 false)))) (Ev.congr (fun k => ?_) hj))
      · simp only [dialtoneref05_Agree.l0]
        rw [if_pos (by omega), if_pos (by omega), hf]
      · rw [hn]
        by_cases q1 : n > c
        · rw [if_pos q1, hb, decide_eq_true (Or.inl q1)]
        · rw [if_neg q1]
          by_cases q2 : n = c
          · rw [if_pos q2, hb]
            congr 1
            exact decide_eq_decide.2 ⟨fun h => Or.inr ⟨q2, h⟩, fun h => by omega⟩
          · rw [if_neg q2, hb, decide_eq_false (by omega)]
    by_cases q : n > c ∨ n = c ∧ f < a
    · obtain ⟨a', b', c', r1, r2⟩ := ih (i + 1) n f (by omega) (by omega) hn0 (fun j hj => by
        by_cases e : j = i
        · subst e
          rw [hf, hn]
          exact Int.le_refl _
        · have := h1 j (by omega)
          omega) (fun hc => ⟨hn, fun j hj hjn => by
        by_cases e : j = i
        · subst e
          rw [hf]
          exact Int.le_refl _
        · have h4 := h1 j (by omega)
          have h5 := (h2 (by omega)).2 j (by omega)
          omega⟩)
      refine ⟨a', b', c', first (b := true) (decide_eq_true q).symm (Ev.step (fun k => ?_) r1), r2⟩
      simp only [dialtoneref05_Agree.j1, if_true]
      rw [if_pos (by omega), if_pos (by omega), hf, wrap64_id ((i : Int) + 1) (by omega) (by omega)]
      rfl
    · obtain ⟨a', b', c', r1, r2⟩ := ih (i + 1) c a (by omega) (by omega) h0 (fun j hj => by
        by_cases e : j = i
        · subst e
          rw [hf, hn]
          omega
        · exact h1 j (by omega)) (fun hc => ⟨(h2 hc).1, fun j hj hjn => by
        by_cases e : j = i
        · subst e
          rw [hf, hn] at hjn
          rw [hf]
          omega
        · exact (h2 hc).2 j (by omega) hjn⟩)
      refine ⟨a', b', c', first (b := false) (decide_eq_false q).symm (Ev.step (fun k => ?_) r1), r2⟩
      simp only [dialtoneref05_Agree.j1]
      rw [if_neg (by simp), wrap64_id ((i : Int) + 1) (by omega) (by omega)]
      rfl
/-- WHAT THE REFERENCE'S Agree RETURNS. -/
theorem ragree_ok (l : List S32) (hl : l.length ≤ 400) : ∃ a b c, Ev (fun r => dialtoneref05_Agree.f r l) (a, b, c) ∧ AgreeIs l a b c := by
  unfold dialtoneref05_Agree.f
  exact ragree_l0 l hl _ 0 0 0 (by omega) rfl (by omega) (fun j hj => by omega) (fun h => by omega)
end Go.Proofs.Ythbonailomfjlaa.C
