import Derived.Test.YthbonailomfjlaaQSpread
import Derived.Test.YthbonailomfjlaaHNarrow
import Derived.Outline
import Derived.Lib.Hide
import Derived.Laws.Rows
/- The contract of clock.around: the window that the readings of a clock leave of 0 to MaxTime. Conditions: the drift is from 0 to 100, and all seconds are from 0 to 10000000. -/
namespace Go.Proofs.Ythbonailomfjlaa.C
open Go.RowKit Go.Proofs.YthbonailomfjlaaW.PrintWords Go.Proofs.YthbonailomfjlaaW.PrintLast Go.Proofs.YthbonailomfjlaaW.PrintMore
attribute [local go_sem] max2_int min2_int max_two min_two max_three min_three max_four min_four
/-- The bounds that one reading gives. -/
def rLo (d loc : Int) (r : S50) : Int := if loc < r.f0 then r.f1 + -sHi d (r.f0 - loc) else if loc = r.f0 then r.f1 + -sHi d 0 else r.f1 + sLo d (loc - r.f0)
def rHi (d loc : Int) (r : S50) : Int := if loc < r.f0 then r.f2 + -sLo d (r.f0 - loc) else if loc = r.f0 then r.f2 + sHi d 0 else r.f2 + sHi d (loc - r.f0)
/-- What the readings leave of a window. -/
def arLo (d loc : Int) : Int → List S50 → Int
  | a, [] => a
  | a, r :: l => arLo d loc (if a < rLo d loc r then rLo d loc r else a) l
def arHi (d loc : Int) : Int → List S50 → Int
  | b, [] => b
  | b, r :: l => arHi d loc (if rHi d loc r < b then rHi d loc r else b) l
theorem arLo_snoc (d loc : Int) (l : List S50) (r : S50) : ∀ a, arLo d loc a (l ++ [r]) = if arLo d loc a l < rLo d loc r then rLo d loc r else arLo d loc a l := by
  induction l with
  | nil => intro a; rfl
  | cons q l ih => intro a; exact ih _
theorem arHi_snoc (d loc : Int) (l : List S50) (r : S50) : ∀ a, arHi d loc a (l ++ [r]) = if rHi d loc r < arHi d loc a l then rHi d loc r else arHi d loc a l := by
  induction l with
  | nil => intro a; rfl
  | cons q l ih => intro a; exact ih _
/-- All numbers are as in a valid clock. -/
def fine (d : Int) (l : List S50) (loc : Int) : Bool := decide (0 ≤ d ∧ d ≤ 100 ∧ 0 ≤ loc ∧ loc ≤ 10000000 ∧ l.length ≤ 100) && l.all fun r => decide (0 ≤ r.f0 ∧ r.f0 ≤ 10000000 ∧ 0 ≤ r.f1 ∧ r.f1 ≤ 10000000 ∧ 0 ≤ r.f2 ∧ r.f2 ≤ 10000000)
def clock_around.f (a0_0 : Int) (l0_1 : List S50) (a1 : Int) : Option (Int × Int) := if fine a0_0 l0_1 a1 = true then some (arLo a0_0 a1 0 l0_1, arHi a0_0 a1 10000000 l0_1) else none
theorem rd_take (l : List S50) (i : Int) (h0 : 0 ≤ i) (h : i < l.length) : l.take (i + 1).toNat = l.take i.toNat ++ [rd_T50 l i] := by
  obtain ⟨k, rfl⟩ : ∃ k : Nat, i = k := ⟨i.toNat, by omega⟩
  have hk : k < l.length := by omega
  rw [show ((k : Int) + 1).toNat = k + 1 by omega, show (k : Int).toNat = k by omega, List.take_succ_eq_append_getElem hk]
  unfold rd_T50
  rw [show (k : Int).toNat = k by omega, show l.getD k z50 = l[k] by simp [List.getD, hk]]
theorem rd_mem (l : List S50) (i : Int) (h0 : 0 ≤ i) (h : i < l.length) : rd_T50 l i ∈ l := by
  obtain ⟨k, rfl⟩ : ∃ k : Nat, i = k := ⟨i.toNat, by omega⟩
  have hk : k < l.length := by omega
  unfold rd_T50
  rw [show (k : Int).toNat = k by omega, show l.getD k z50 = l[k] by simp [List.getD, hk]]
  exact List.getElem_mem hk
/-- What holds at the head of each round. -/
def ArRel (d : Int) (A : Option Addr) (c : Nat) (l : List S50) (loc : Int) (W : World) (B : Nat) (i : Int) (w : World) : Prop :=
  w.heap[B]? = some (.cells #[.int .i64 d, .slice A l.length c] 24 (0, 0)) ∧ w.heap[B + 1]? = some (.cells #[.int .i64 0, .int .i64 0] 62 (0, 0)) ∧
  w.heap[B + 1 + 1]? = some (.cells #[.int .i64 (arLo d loc 0 (l.take i.toNat)), .int .i64 (arHi d loc 10000000 (l.take i.toNat))] 62 (0, 0)) ∧ Below B W w
theorem ar_step {d : Int} {A : Option Addr} {c : Nat} {l : List S50} {loc : Int} {W : World} {B : Nat} {i : Int} {w : World} (h : ArRel d A c l loc W B i w) (h0 : 0 ≤ i) (hlt : i < l.length) (hWB : W.heap.size = B) (o : Obj) (n : Nat) (lv hv : Int)
    (hl : lv = rLo d loc (rd_T50 l i)) (hh : hv = rHi d loc (rd_T50 l i)) :
    ArRel d A c l loc W B (i + 1) ((((((w.alloc o).drewN n).setCell ⟨B + 1 + 1, 0, none⟩ (.int .i64 (if arLo d loc 0 (l.take i.toNat) < lv then lv else arLo d loc 0 (l.take i.toNat)))).setCell ⟨B + 1 + 1, 1, none⟩ (.int .i64 (if hv < arHi d loc 10000000 (l.take i.toNat) then hv else arHi d loc 10000000 (l.take i.toNat)))).drew)) := by
  obtain ⟨h1, h2, h3, h4⟩ := h
  refine ⟨?_, ?_, ?_, ?_⟩
  · exact blk_drew (blk_far (blk_far (blk_drewN (blk_alloc h1 _) _) (show B ≠ B + 1 + 1 by omega) _) (show B ≠ B + 1 + 1 by omega) _)
  · exact blk_drew (blk_far (blk_far (blk_drewN (blk_alloc h2 _) _) (show B + 1 ≠ B + 1 + 1 by omega) _) (show B + 1 ≠ B + 1 + 1 by omega) _)
  · rw [rd_take l i h0 hlt, arLo_snoc, arHi_snoc, ← hl, ← hh]
    exact blk_drew (blk_put (blk_put (blk_drewN (blk_alloc h3 _) _) 0 _ rfl) 1 _ rfl)
  · subst hWB
    exact below_drew1 (below_set (below_set (pw_below_drewN (below_alloc h4 _) _) (by omega)) (by omega))
theorem ar_start (d : Int) (A : Option Addr) (c : Nat) (l : List S50) (loc : Int) (w : World) : ArRel d A c l loc w w.heap.size 0 (((w.alloc (.cells #[.int .i64 d, .slice A l.length c] 24)).alloc (.cells #[.int .i64 0, .int .i64 0] 62)).alloc (.cells #[.int .i64 0, .int .i64 10000000] 62)) := by
  refine ⟨blk_alloc (blk_alloc (heap_alloc_new _ _) _) _, blk_alloc (?_) _, ?_, ?_⟩
  · have := heap_alloc_new (w.alloc (.cells #[.int .i64 d, .slice A l.length c] 24)) (.cells #[.int .i64 0, .int .i64 0] 62)
    rwa [World.size_alloc] at this
  · have := heap_alloc_new ((w.alloc (.cells #[.int .i64 d, .slice A l.length c] 24)).alloc (.cells #[.int .i64 0, .int .i64 0] 62)) (.cells #[.int .i64 0, .int .i64 10000000] 62)
    rwa [World.size_alloc, World.size_alloc] at this
  · exact (((Below.refl _ w).alloc (Nat.le_refl _) _).alloc (by simp) _).alloc (by simp; omega) _
set_option maxHeartbeats 4000000 in
set_option maxRecDepth 100000 in
theorem clock_around.calls (a0_0 : Int) (A0_1 : Option Addr) (c0_1 : Nat) (l0_1 : List S50) (a1 r1 r2 : Int) (w : World) (hr0_1 : Kd.C k50 w A0_1 l0_1.length l0_1) (hc0_1 : l0_1.length ≤ c0_1) (h : clock_around.f a0_0 l0_1 a1 = some (r1, r2)) :
    Calls Try.prog 36 #[.agg #[.int .i64 a0_0, .slice A0_1 l0_1.length c0_1], .int .i64 a1] w fun e w' => e = .returned (.agg #[.int .i64 r1, .int .i64 r2]) ∧ Below w.heap.size w w' := by
  have HR := Aside0.mk hr0_1
  have HC := Aside0.mk hc0_1
  clear hr0_1 hc0_1
  have HF : Aside0 (fine a0_0 l0_1 a1 = true ∧ arLo a0_0 a1 0 l0_1 = r1 ∧ arHi a0_0 a1 10000000 l0_1 = r2) := by
    unfold clock_around.f at h
    by_cases hf : fine a0_0 l0_1 a1 = true
    · rw [if_pos hf] at h
      simp only [Option.some.injEq, Prod.mk.injEq] at h
      exact ⟨hf, h.1, h.2⟩
    · rw [if_neg hf] at h
      cases h
  clear h
  go_enter Try.func36, Try.ntmps36
  go_wp2
  go_loopw [18] (fun v wr => ∃ i : Int, v = .int .i64 i ∧ Aside0 (0 ≤ i ∧ i ≤ l0_1.length) ∧ Aside0 (ArRel a0_0 A0_1 c0_1 l0_1 a1 w w.heap.size i wr)) (fun v _ => l0_1.length - (intOf v).toNat)
  case atStart =>
    exact ⟨0, rfl, ⟨by omega, by omega⟩, ⟨ar_start _ _ _ _ _ _⟩⟩
  case round =>
    obtain ⟨i, rfl, HI, HA⟩ := hrel
    by_cases hlt : i < l0_1.length
    · obtain ⟨hb0, hb1, hb2, hbel⟩ := HA.out
      have hz0 : wr.cell? ⟨w.heap.size, 0, none⟩ = some (.int .i64 a0_0) := (blk_cell hb0 0).trans rfl
      have hz1 : wr.cell? ⟨w.heap.size, 1, none⟩ = some (.slice A0_1 l0_1.length c0_1) := (blk_cell hb0 1).trans rfl
      have p : 0 ≤ i := HI.out.1
      have hcC := Kd.C_below HR.out hbel
      obtain ⟨ad, rfl, hx0, hx1, hx2⟩ := at_T50 hcC i p hlt
      have hsz : w.heap.size + 1 + 1 < wr.heap.size := blk_lt hb2
      have hz2 : ∀ o, (wr.alloc o).cell? ⟨w.heap.size, 0, none⟩ = some (.int .i64 a0_0) := fun o => by rw [Below.cell ((Below.refl wr.heap.size wr).alloc (Nat.le_refl _) o) (p := ⟨w.heap.size, 0, none⟩) (show w.heap.size < wr.heap.size by omega)]; exact hz0
      have HSZ := Lib.hid hsz
      have HB2 := Aside0.mk hb2
      clear hcC hb0 hb1 hb2 hbel hsz hz0
      obtain ⟨r, hr⟩ : ∃ r, rd_T50 l0_1 i = r := ⟨_, rfl⟩
      rw [hr] at hx0 hx1 hx2
      have HRr := Aside0.mk hr
      clear hr
      have hfine : l0_1.length ≤ 100 ∧ 0 ≤ a0_0 ∧ a0_0 ≤ 100 ∧ 0 ≤ a1 ∧ a1 ≤ 10000000 ∧ 0 ≤ r.f0 ∧ r.f0 ≤ 10000000 ∧ 0 ≤ r.f1 ∧ r.f1 ≤ 10000000 ∧ 0 ≤ r.f2 ∧ r.f2 ≤ 10000000 := by
        have := HF.out.1
        simp only [fine, Bool.and_eq_true, decide_eq_true_eq, List.all_eq_true] at this
        have hm := this.2 r (by rw [← HRr.out]; exact rd_mem _ _ p hlt)
        omega
      obtain ⟨g0, g1, g2, g3, g4, g5, g6, g7, g8, g9, g10⟩ := hfine
      by_cases c1 : a1 < r.f0
      · have hs := spread_ok a0_0 (r.f0 - a1) g1 g2 (by omega) (by omega) 1
        have b1 := sLo_bd a0_0 (r.f0 - a1) g1 (by omega) (by omega)
        have b2 := sHi_bd a0_0 (r.f0 - a1) g1 g2 (by omega) (by omega)
        have HS := Aside0.mk hs
        clear hs
        obtain ⟨x, hx⟩ : ∃ x, sLo a0_0 (r.f0 - a1) = x := ⟨_, rfl⟩
        obtain ⟨y, hy⟩ : ∃ y, sHi a0_0 (r.f0 - a1) = y := ⟨_, rfl⟩
        rw [hx, hy] at HS
        rw [hx] at b1
        rw [hy] at b2
        have HX := Aside0.mk hx
        have HY := Aside0.mk hy
        clear hx hy
        go_wp2_with (first
          | (go_at_call 11; (with_reducible refine (clock_Spread.calls 2 a0_0 (r.f0 - a1) x y _ HS.out).mono ?_); rintro e w' ⟨rfl, ⟨nd, rfl⟩⟩)
          | (go_at_call 45; refine (narrow_any _ _ _ _ _ _ (blk_drewN (blk_alloc HB2.out _) _)).mono ?_; rintro e w' ⟨rfl, rfl⟩))
        go_roundw
        case rel => exact ⟨i + 1, rfl, ⟨by omega, by omega⟩, ⟨ar_step HA.out p hlt rfl _ nd _ _ (by rw [HRr.out]; unfold rLo; rw [if_pos c1, HY.out]) (by rw [HRr.out]; unfold rHi; rw [if_pos c1, HX.out])⟩⟩
        case measure => simp [intOf]; omega
      · have c1' : ¬ a1 < r.f0 := c1
        clear c1
        by_cases c2 : a1 = r.f0
        · subst c2
          have hs := spread_ok a0_0 0 g1 g2 (by omega) (by omega) 1
          have b1 := sLo_bd a0_0 0 g1 (by omega) (by omega)
          have b2 := sHi_bd a0_0 0 g1 g2 (by omega) (by omega)
          have HS := Aside0.mk hs
          clear hs
          obtain ⟨x, hx⟩ : ∃ x, sLo a0_0 0 = x := ⟨_, rfl⟩
          obtain ⟨y, hy⟩ : ∃ y, sHi a0_0 0 = y := ⟨_, rfl⟩
          rw [hx, hy] at HS
          rw [hx] at b1
          rw [hy] at b2
          have HX := Aside0.mk hx
          have HY := Aside0.mk hy
          clear hx hy
          go_wp2_with (first
            | (go_at_call 11; (with_reducible refine (clock_Spread.calls 2 a0_0 0 x y _ HS.out).mono ?_); rintro e w' ⟨rfl, ⟨nd, rfl⟩⟩)
            | (go_at_call 45; refine (narrow_any _ _ _ _ _ _ (blk_drewN (blk_alloc HB2.out _) _)).mono ?_; rintro e w' ⟨rfl, rfl⟩))
          go_roundw
          case rel => exact ⟨i + 1, rfl, ⟨by omega, by omega⟩, ⟨ar_step HA.out p hlt rfl _ nd _ _ (by rw [HRr.out]; unfold rLo; rw [if_neg (by omega), if_pos rfl, HY.out]) (by rw [HRr.out]; unfold rHi; rw [if_neg (by omega), if_pos rfl, HY.out])⟩⟩
          case measure => simp [intOf]; omega
        · have hgt : r.f0 < a1 := by omega
          clear c1' c2
          have hs := spread_ok a0_0 (a1 - r.f0) g1 g2 (by omega) (by omega) 1
          have b1 := sLo_bd a0_0 (a1 - r.f0) g1 (by omega) (by omega)
          have b2 := sHi_bd a0_0 (a1 - r.f0) g1 g2 (by omega) (by omega)
          have HS := Aside0.mk hs
          clear hs
          obtain ⟨x, hx⟩ : ∃ x, sLo a0_0 (a1 - r.f0) = x := ⟨_, rfl⟩
          obtain ⟨y, hy⟩ : ∃ y, sHi a0_0 (a1 - r.f0) = y := ⟨_, rfl⟩
          rw [hx, hy] at HS
          rw [hx] at b1
          rw [hy] at b2
          have HX := Aside0.mk hx
          have HY := Aside0.mk hy
          clear hx hy
          go_wp2_with (first
            | (go_at_call 11; (with_reducible refine (clock_Spread.calls 2 a0_0 (a1 - r.f0) x y _ HS.out).mono ?_); rintro e w' ⟨rfl, ⟨nd, rfl⟩⟩)
            | (go_at_call 45; refine (narrow_any _ _ _ _ _ _ (blk_drewN (blk_alloc HB2.out _) _)).mono ?_; rintro e w' ⟨rfl, rfl⟩))
          go_roundw
          case rel => exact ⟨i + 1, rfl, ⟨by omega, by omega⟩, ⟨ar_step HA.out p hlt rfl _ nd _ _ (by rw [HRr.out]; unfold rLo; rw [if_neg (by omega), if_neg (by omega), HX.out]) (by rw [HRr.out]; unfold rHi; rw [if_neg (by omega), if_neg (by omega), HY.out])⟩⟩
          case measure => simp [intOf]; omega
    · obtain ⟨hb0, hb1, hb2, hbel⟩ := HA.out
      have hend : i.toNat = l0_1.length := by have := HI.out; omega
      rw [hend, List.take_length, HF.out.2.1, HF.out.2.2] at hb2
      have hz0 : wr.cell? ⟨w.heap.size + 1 + 1, 0, none⟩ = some (.int .i64 r1) := (blk_cell hb2 0).trans rfl
      have hz1 : wr.cell? ⟨w.heap.size + 1 + 1, 1, none⟩ = some (.int .i64 r2) := (blk_cell hb2 1).trans rfl
      have hy0 : wr.cell? ⟨w.heap.size + 1, 0, none⟩ = some (.int .i64 0) := (blk_cell hb1 0).trans rfl
      have hy1 : wr.cell? ⟨w.heap.size + 1, 1, none⟩ = some (.int .i64 0) := (blk_cell hb1 1).trans rfl
      have hf0 := blk_frozen hb1 0
      have hf1 := blk_frozen hb1 1
      have HB1 := Aside0.mk hb1
      have HBel := Aside0.mk hbel
      clear hb0 hb1 hb2 hbel hend
      go_wp2
      refine bodyPost_ret (results_cell_row rfl _ _ (w.heap.size + 1) 62 #[.int .i64 r1, .int .i64 r2] (0, 0) _ rfl (blk_put (blk_put HB1.out 0 _ rfl) 1 _ rfl) Try.underlying62 rfl (by kernel_rfl)) rfl ?_
      exact ⟨rfl, below_set (below_set HBel.out (by omega)) (by omega)⟩
end Go.Proofs.Ythbonailomfjlaa.C
