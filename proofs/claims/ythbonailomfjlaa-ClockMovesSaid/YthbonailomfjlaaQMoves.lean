import Derived.Test.YthbonailomfjlaaQAt
import Derived.Test.YthbonailomfjlaaFMoves
/- ClockMoves returns true. Conditions: whole numbers of 64 bits, and slices as long as a machine holds. -/
namespace Go.Proofs.Ythbonailomfjlaa.C
open Go.RowKit Go.Proofs.YthbonailomfjlaaW.PrintWords Go.Proofs.YthbonailomfjlaaW.PrintLast Go.Proofs.YthbonailomfjlaaW.PrintMore
def moved (n : Int) (r : S50) : S50 := ⟨r.f0, r.f1 + n, r.f2 + n⟩
theorem rLo_moved (d loc n : Int) (r : S50) : rLo d loc (moved n r) = rLo d loc r + n := by
  unfold rLo moved
  simp only
  split
  · omega
  · split <;> omega
theorem rHi_moved (d loc n : Int) (r : S50) : rHi d loc (moved n r) = rHi d loc r + n := by
  unfold rHi moved
  simp only
  split
  · omega
  · split <;> omega
theorem arLo_moved (d loc n : Int) (hn : 0 ≤ n) (l : List S50) : ∀ a b, ((a = 0 ∧ 0 ≤ b ∧ b ≤ n) ∨ (0 < a ∧ b = a + n)) → ((arLo d loc a l = 0 ∨ arLo d loc b (l.map (moved n)) = arLo d loc a l + n)) := by
  induction l with
  | nil =>
    intro a b h
    simp only [List.map_nil, arLo]
    omega
  | cons r l ih =>
    intro a b h
    simp only [List.map_cons, arLo]
    rw [rLo_moved]
    refine ih _ _ ?_
    generalize rLo d loc r = x
    split <;> split <;> omega
theorem arHi_moved (d loc n : Int) (l : List S50) : ∀ a b, b = a + n → arHi d loc b (l.map (moved n)) = arHi d loc a l + n := by
  induction l with
  | nil => intro a b h; exact h
  | cons r l ih =>
    intro a b h
    simp only [List.map_cons, arHi]
    rw [rHi_moved]
    refine ih _ _ ?_
    generalize rHi d loc r = x
    split <;> split <;> omega
theorem sHi_5000 (d : Int) (hd2 : d ≤ 100) : sHi d 5000 ≤ 6000 := by
  unfold sHi
  exact div_le_of _ _ _ (by omega) (by omega)
theorem rHi_small (drift start : Int) (rates : List Int) (d loc : Int) (hd : 0 ≤ d ∧ d ≤ 100) (h0 : 0 ≤ loc) (h1 : loc ≤ 5000) (hdr : I64 drift) (hs : I64 start) (hr : ∀ r, r ∈ rates → I64 r) (r : S50) (h : OnCourse drift start rates r) : rHi d loc r ≤ 10000 := by
  obtain ⟨s, s0, s1, e, g1, g2, g3, g4⟩ := h
  have hb := shownR_bd drift start rates s hdr hs hr s0 (by omega)
  rw [← e] at hb
  unfold rHi
  have h5 := sHi_5000 d hd.2
  have a1 := sLo_nonneg d (r.f0 - loc) hd.1
  have a2 := sHi_mono d 0 5000 hd.2 (by omega)
  have a3 := sHi_mono d (loc - r.f0) 5000 hd.2 (by omega)
  split
  · omega
  · split <;> omega
/-- The end of the law: what it compares. -/
def movesFin (k : Nat) (n l D : Int) (R M : List S50) : Option Bool := ((clock_At.f k D R l).bind fun bt424 => ((clock_At.f k D M l).bind fun bt427 => (if (R.length : Int) = 0 then (dialtonelaw05_ClockMoves.j1 k true n bt424.1 bt424.2.1 bt427.1 bt427.2.1 true) else (if bt424.2.2 = 0 then (if bt427.2.2 = 0 then (if bt424.1 = 0 then (dialtonelaw05_ClockMoves.j1 k true n bt424.1 bt424.2.1 bt427.1 bt427.2.1 true) else (dialtonelaw05_ClockMoves.j1 k true n bt424.1 bt424.2.1 bt427.1 bt427.2.1 (bt427.1 == 0))) else (dialtonelaw05_ClockMoves.j1 k true n bt424.1 bt424.2.1 bt427.1 bt427.2.1 true)) else (dialtonelaw05_ClockMoves.j1 k true n bt424.1 bt424.2.1 bt427.1 bt427.2.1 true)))))
theorem moves_loop (n l D : Int) (R : List S50) (hn : 0 ≤ n ∧ n ≤ 100000) (hR : ∀ r, r ∈ R → 0 ≤ r.f1 ∧ r.f1 ≤ 10000 ∧ 0 ≤ r.f2 ∧ r.f2 ≤ 10000) (hlen : R.length ≤ 12) (m : Nat) :
    ∀ (i : Int) (acc : List S50), 0 ≤ i → i ≤ R.length → (R.length : Int) - i = m → (acc.length : Int) = i → Ev (fun k => movesFin k n l D R (acc ++ (R.drop i.toNat).map (moved n))) true →
      Ev (fun k => dialtonelaw05_ClockMoves.l0 k true n l i D R D acc) true := by
  induction m with
  | zero =>
    intro i acc h0 h1 hm ha hf
    rw [List.drop_eq_nil_of_le (by omega), List.map_nil, List.append_nil] at hf
    refine Ev.step (fun k => ?_) hf
    simp only [dialtonelaw05_ClockMoves.l0]
    rw [if_neg (by omega)]
    rfl
  | succ m ih =>
    intro i acc h0 h1 hm ha hf
    obtain ⟨b1, b2, b3, b4⟩ := hR _ (rd_mem R i h0 (by omega))
    rw [drop_rd R i h0 (by omega), List.map_cons] at hf
    have next := ih (i + 1) (acc ++ [moved n (rd_T50 R i)]) (by omega) (by omega) (by omega) (by simp; omega) (by
      rw [List.append_assoc]
      exact hf)
    refine Ev.step (fun k => ?_) next
    simp only [dialtonelaw05_ClockMoves.l0]
    rw [if_pos (by omega), if_pos h0, if_pos (by omega), wrap64_id (i + 1) (by omega) (by omega), wrap64_id (_ + n) (by omega) (by omega), wrap64_id (_ + n) (by omega) (by omega)]
    rfl
theorem moves_fin (drift start : Int) (rates : List Int) (R : List S50) (hd : I64 drift) (hs : I64 start) (hr : ∀ r, r ∈ rates → I64 r) (fit : Fit drift start rates (pk drift 101) R) (n l : Int) (hn : 0 ≤ n ∧ n < 100000) (hl : 0 ≤ l ∧ l < 5000) :
    Ev (fun k => movesFin k n l (pk drift 101) R (R.map (moved n))) true := by
  obtain ⟨d1, d2, d3⟩ := rpick_ok drift 101 hd (by omega)
  obtain ⟨D, hD⟩ : ∃ D, pk drift 101 = D := ⟨_, rfl⟩
  rw [hD] at fit d2 d3 ⊢
  have stop : ∀ x y z u, Ev (fun k => dialtonelaw05_ClockMoves.j1 k true n x y z u true) true := by
    intro x y z u
    refine ⟨1, fun k hk => ?_⟩
    obtain ⟨k, rfl⟩ : ∃ q, k = q + 1 := ⟨k - 1, by omega⟩
    simp only [dialtonelaw05_ClockMoves.j1, if_true]
  refine Ev.bind (at_ev _ _ _) (Ev.bind (at_ev _ _ _) ?_)
  by_cases h0 : (R.length : Int) = 0
  · simp only [if_pos h0]
    exact stop _ _ _ _
  · simp only [if_neg h0]
    by_cases h1 : (atR D R l).2.2 = 0
    · simp only [if_pos h1]
      by_cases h2 : (atR D (R.map (moved n)) l).2.2 = 0
      · simp only [if_pos h2]
        obtain ⟨e1, e2, e5, _⟩ := atR_out _ _ _ h1
        obtain ⟨e3, e4, _⟩ := atR_out _ _ _ h2
        rw [e1, e2, e3, e4]
        by_cases h3 : arLo D l 0 R = 0
        · simp only [if_pos h3]
          exact stop _ _ _ _
        · simp only [if_neg h3]
          have lo := (arLo_moved D l n hn.1 R 0 0 (Or.inl ⟨rfl, by omega, hn.1⟩)).resolve_left h3
          have hi : arHi D l 10000000 (R.map (moved n)) = arHi D l 10000000 R + n := by
            cases R with
            | nil => exact absurd rfl h0
            | cons r R =>
              simp only [List.map_cons, arHi]
              rw [rHi_moved]
              have hb := rHi_small drift start rates D l ⟨d2, by omega⟩ hl.1 (by omega) hd hs hr r (fit.2 r (List.mem_cons_self ..))
              rw [if_pos (by omega), if_pos (by omega)]
              exact arHi_moved D l n R _ _ rfl
          have b1 := le_arLo D l R 0
          have b2 := arHi_le D l R 10000000
          by_cases h4 : arLo D l 0 (R.map (moved n)) = 0
          · rw [h4]
            exact stop _ _ _ _
          · refine ⟨1, fun k hk => ?_⟩
            obtain ⟨k, rfl⟩ : ∃ q, k = q + 1 := ⟨k - 1, by omega⟩
            rw [beq_eq_false_iff_ne.2 h4]
            simp only [dialtonelaw05_ClockMoves.j1]
            rw [if_neg (by simp), lo, hi, wrap64_id _ (by omega) (by omega), wrap64_id _ (by omega) (by omega), if_pos rfl]
            simp
      · simp only [if_neg h2]
        exact stop _ _ _ _
    · simp only [if_neg h1]
      exact stop _ _ _ _
theorem moves_ok (drift start : Int) (rates : List Int) (at_ : List S60) (by_ loc : Int) (hd : I64 drift) (hs : I64 start) (hr : ∀ r, r ∈ rates → I64 r) (hlr : rates.length * 8 ≤ 140737488351232) (ha : ∀ x, x ∈ at_ → I64 x.f0 ∧ I64 x.f1 ∧ I64 x.f2) (hla : at_.length * 24 ≤ 140737488351232) (hb : I64 by_) (hl : I64 loc) :
    Ev (fun k => dialtonelaw05_ClockMoves.f k drift start rates at_ by_ loc) true := by
  unfold dialtonelaw05_ClockMoves.f
  refine Ev.bind sane_ok ?_
  simp only [if_true]
  obtain ⟨R, e1, fit⟩ := made_ok drift start rates at_ hd hs hr (by omega) ha (by omega)
  refine Ev.bind e1 ?_
  obtain ⟨p1, p2, p3⟩ := pick_ok by_ 100000 hb (by omega)
  obtain ⟨q1, q2, q3⟩ := pick_ok loc 5000 hl (by omega)
  rw [p1]
  simp only [Option.bind_some]
  rw [q1]
  simp only [Option.bind_some]
  have hlen : R.length ≤ 12 := by
    have := fit.1
    unfold vld at this
    rw [Bool.and_eq_true, decide_eq_true_eq] at this
    exact this.1.2.2
  refine moves_loop _ _ _ R ⟨p2, by omega⟩ (fun r h => ?_) hlen R.length 0 [] (by omega) (by omega) (by omega) rfl ?_
  · obtain ⟨s, s0, s1, e, g1, g2, g3, g4⟩ := fit.2 r h
    omega
  · exact moves_fin drift start rates R hd hs hr fit _ _ ⟨p2, p3⟩ ⟨q2, q3⟩
end Go.Proofs.Ythbonailomfjlaa.C
