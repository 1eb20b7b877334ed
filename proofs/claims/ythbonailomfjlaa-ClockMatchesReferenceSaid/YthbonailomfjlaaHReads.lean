import Derived.Test.YthbonailomfjlaaQAround
import Derived.Test.YthbonailomfjlaaCValid
import Derived.BigRegion
import Derived.Deep.RegionWith
import Derived.Deep.QuietTactic
import Derived.BigQuiet
/- The contract of clock.Reads: two binary searches over the bounds of the window; by hand: the closures, sort.Search at each of them, and Reads itself. Conditions: those of around, wherever it is asked. -/
namespace Go.Proofs.Ythbonailomfjlaa.C
open Go.RowKit Go.Proofs.YthbonailomfjlaaW.PrintWords Go.Proofs.YthbonailomfjlaaW.PrintLast Go.Proofs.YthbonailomfjlaaW.PrintMore
theorem rd_fine {d : Int} {l : List S50} {loc : Int} (h : fine d l loc = true) (i : Int) (h0 : 0 ≤ i) (h1 : i ≤ 10000000) : fine d l i = true := by
  simp only [fine, Bool.and_eq_true, decide_eq_true_eq] at h ⊢
  exact ⟨⟨h.1.1, h.1.2.1, h0, h1, h.1.2.2.2.2⟩, h.2⟩
/-- What Reads returns, where around is fine. -/
def clock_Reads.f (d : Int) (l : List S50) (t : Int) : Option (Int × Int × Int) :=
  match clock_Valid.f 200 d l with
  | none => none
  | some false => some (0, 0, 50)
  | some true =>
    if t < 0 ∨ 10000000 < t then some (0, 0, 50) else if fine d l 0 = true then
      (if firstI (fun i => decide (t < arLo d i 0 l)) 10000001 0 ≤ firstI (fun i => decide (t ≤ arHi d i 10000000 l)) 10000001 0 then some (0, 0, 50)
       else some (firstI (fun i => decide (t ≤ arHi d i 10000000 l)) 10000001 0, firstI (fun i => decide (t < arLo d i 0 l)) 10000001 0 - 1, 0)) else none
set_option maxHeartbeats 4000000 in
theorem search39 (p : Int → Bool) (a b : Value) (w : World)
    (hp : ∀ (i : Int) (W : World), 0 ≤ i → i < 10000001 → Below w.heap.size w W → Calls Try.prog 39 #[.int .i64 i, a, b] W fun e w' => e = .returned (.bool (p i)) ∧ Below W.heap.size W w') :
    Calls Try.prog 38 #[.int .i64 10000001, .func (.func 39) #[] #[a, b]] w fun e w' => ∃ r : Int, e = .returned (.int .i64 r) ∧ Aside0 (Found 10000001 p r) ∧ Below w.heap.size w w' := by
  have HP := Aside0.mk hp
  clear hp
  go_enter Try.func38, Try.ntmps38
  go_wp2
  go_loopw [5, 6] (fun u v wr => ∃ i j : Int, u = .int .i64 i ∧ v = .int .i64 j ∧ 0 ≤ i ∧ i ≤ j ∧ j ≤ 10000001 ∧ Aside0 ((j < 10000001 → p j = true) ∧ (0 < i → p (i - 1) = false)) ∧ Aside0 (Below w.heap.size w wr)) (fun u v _ => (intOf v - intOf u).toNat)
  case atStart => exact ⟨0, 10000001, rfl, rfl, by omega, by omega, by omega, ⟨by omega, by omega⟩, ⟨Below.refl _ _⟩⟩
  case round =>
    obtain ⟨i, j, rfl, rfl, h0, h1, h2, HQ, HB⟩ := hrel
    by_cases hlt : i < j
    · obtain ⟨h, hh⟩ : ∃ h, (i + j) / 2 = h := ⟨_, rfl⟩
      have hh1 : i ≤ h := by omega
      have hh2 : h < j := by omega
      have HH := Aside0.mk hh
      clear hh
      obtain ⟨q, hq⟩ : ∃ q, p h = q := ⟨_, rfl⟩
      have HPq := Aside0.mk hq
      clear hq
      cases q with
      | true =>
        go_wp2_with (go_at_call 39; rw [HH.out]; refine (HP.out h _ (by omega) (by omega) HB.out).mono ?_; rw [HPq.out]; rintro e w1 ⟨rfl, hb1⟩; have HB1 := Aside0.mk (below_step HB.out hb1); clear hb1)
        all_goals
          go_roundw
          case rel => exact ⟨i, h, rfl, rfl, h0, hh1, by omega, ⟨fun _ => HPq.out, HQ.out.2⟩, HB1⟩
          case measure => simp [intOf]; omega
      | false =>
        go_wp2_with (go_at_call 39; rw [HH.out]; refine (HP.out h _ (by omega) (by omega) HB.out).mono ?_; rw [HPq.out]; rintro e w1 ⟨rfl, hb1⟩; have HB1 := Aside0.mk (below_step HB.out hb1); clear hb1)
        all_goals
          go_roundw
          case rel => exact ⟨h + 1, j, rfl, rfl, by omega, by omega, h2, ⟨HQ.out.1, fun _ => by rw [show h + 1 - 1 = h by omega]; exact HPq.out⟩, HB1⟩
          case measure => simp [intOf]; omega
    · have e : i = j := by omega
      have HE := Aside0.mk e
      clear e
      go_wp2
      go_ret
      exact ⟨i, rfl, ⟨h0, by omega, by rw [HE.out]; exact HQ.out.1, HQ.out.2⟩, HB.out⟩
set_option maxHeartbeats 4000000 in
theorem search40 (p : Int → Bool) (a b : Value) (w : World)
    (hp : ∀ (i : Int) (W : World), 0 ≤ i → i < 10000001 → Below w.heap.size w W → Calls Try.prog 40 #[.int .i64 i, a, b] W fun e w' => e = .returned (.bool (p i)) ∧ Below W.heap.size W w') :
    Calls Try.prog 38 #[.int .i64 10000001, .func (.func 40) #[] #[a, b]] w fun e w' => ∃ r : Int, e = .returned (.int .i64 r) ∧ Aside0 (Found 10000001 p r) ∧ Below w.heap.size w w' := by
  have HP := Aside0.mk hp
  clear hp
  go_enter Try.func38, Try.ntmps38
  go_wp2
  go_loopw [5, 6] (fun u v wr => ∃ i j : Int, u = .int .i64 i ∧ v = .int .i64 j ∧ 0 ≤ i ∧ i ≤ j ∧ j ≤ 10000001 ∧ Aside0 ((j < 10000001 → p j = true) ∧ (0 < i → p (i - 1) = false)) ∧ Aside0 (Below w.heap.size w wr)) (fun u v _ => (intOf v - intOf u).toNat)
  case atStart => exact ⟨0, 10000001, rfl, rfl, by omega, by omega, by omega, ⟨by omega, by omega⟩, ⟨Below.refl _ _⟩⟩
  case round =>
    obtain ⟨i, j, rfl, rfl, h0, h1, h2, HQ, HB⟩ := hrel
    by_cases hlt : i < j
    · obtain ⟨h, hh⟩ : ∃ h, (i + j) / 2 = h := ⟨_, rfl⟩
      have hh1 : i ≤ h := by omega
      have hh2 : h < j := by omega
      have HH := Aside0.mk hh
      clear hh
      obtain ⟨q, hq⟩ : ∃ q, p h = q := ⟨_, rfl⟩
      have HPq := Aside0.mk hq
      clear hq
      cases q with
      | true =>
        go_wp2_with (go_at_call 40; rw [HH.out]; refine (HP.out h _ (by omega) (by omega) HB.out).mono ?_; rw [HPq.out]; rintro e w1 ⟨rfl, hb1⟩; have HB1 := Aside0.mk (below_step HB.out hb1); clear hb1)
        all_goals
          go_roundw
          case rel => exact ⟨i, h, rfl, rfl, h0, hh1, by omega, ⟨fun _ => HPq.out, HQ.out.2⟩, HB1⟩
          case measure => simp [intOf]; omega
      | false =>
        go_wp2_with (go_at_call 40; rw [HH.out]; refine (HP.out h _ (by omega) (by omega) HB.out).mono ?_; rw [HPq.out]; rintro e w1 ⟨rfl, hb1⟩; have HB1 := Aside0.mk (below_step HB.out hb1); clear hb1)
        all_goals
          go_roundw
          case rel => exact ⟨h + 1, j, rfl, rfl, by omega, by omega, h2, ⟨HQ.out.1, fun _ => by rw [show h + 1 - 1 = h by omega]; exact HPq.out⟩, HB1⟩
          case measure => simp [intOf]; omega
    · have e : i = j := by omega
      have HE := Aside0.mk e
      clear e
      go_wp2
      go_ret
      exact ⟨i, rfl, ⟨h0, by omega, by rw [HE.out]; exact HQ.out.1, HQ.out.2⟩, HB.out⟩
set_option maxHeartbeats 4000000 in
theorem closure39 (g0 g1 : Nat) (d : Int) (A : Option Addr) (c : Nat) (l : List S50) (t loc r1 r2 : Int) (w : World) (hb : w.heap[g0]? = some (.cells #[.int .i64 d, .slice A l.length c] 24 (0, 0))) (ht : w.heap[g1]? = some (.cells #[.int .i64 t] 3 (0, 0)))
    (hr : Kd.C k50 w A l.length l) (hc : l.length ≤ c) (h : clock_around.f d l loc = some (r1, r2)) :
    Calls Try.prog 39 #[.int .i64 loc, .pointer (some ⟨g0, 0, none⟩), .pointer (some ⟨g1, 0, none⟩)] w fun e w' => e = .returned (.bool (decide (t ≤ r2))) ∧ Below w.heap.size w w' := by
  have hz0 : w.cell? ⟨g0, 0, none⟩ = some (.int .i64 d) := (blk_cell hb 0).trans rfl
  have hz1 : w.cell? ⟨g0, 1, none⟩ = some (.slice A l.length c) := (blk_cell hb 1).trans rfl
  have hy0 : w.cell? ⟨g1, 0, none⟩ = some (.int .i64 t) := (blk_cell ht 0).trans rfl
  have hcall : ∀ W, Below w.heap.size w W → Calls Try.prog 36 #[.agg #[.int .i64 d, .slice A l.length c], .int .i64 loc] W fun e w' => e = .returned (.agg #[.int .i64 r1, .int .i64 r2]) ∧ Below W.heap.size W w' ∧ w'.cell? ⟨g1, 0, none⟩ = some (.int .i64 t) := fun W hW =>
    (clock_around.calls d A c l loc r1 r2 W (Kd.C_below hr hW) hc h).mono fun e w' ⟨he, hb'⟩ => ⟨he, hb', (blk_cell (blk_below (blk_below ht hW) hb') 0).trans rfl⟩
  have hfl : ∀ W, Sem.run Try.prog (Instr.field 62 (.agg #[.int .i64 r1, .int .i64 r2]) 1) W = Result.ok (.int .i64 r2) W := fun _ => by kernel_rfl
  have HCALL := Aside0.mk hcall
  clear hb ht hr hc h hcall
  go_enter Try.func39, Try.ntmps39
  go_wp2
  go_region_with (go_at_call 36; (with_reducible refine (HCALL.out _ (by repeat (first | exact Below.refl _ _ | apply below_drew1))).mono ?_); rintro e w1 ⟨rfl, hb1, hy1⟩; have HB1 := Aside0.mk hb1; clear hb1)
  all_goals (go_wp2; go_ret; exact ⟨rfl, by repeat (first | (with_reducible exact below_step (by repeat (first | exact Below.refl _ _ | apply below_drew1)) HB1.out) | apply below_drew1 | apply pw_below_drewN)⟩)
set_option maxHeartbeats 4000000 in
theorem closure40 (g0 g1 : Nat) (d : Int) (A : Option Addr) (c : Nat) (l : List S50) (t loc r1 r2 : Int) (w : World) (hb : w.heap[g0]? = some (.cells #[.int .i64 d, .slice A l.length c] 24 (0, 0))) (ht : w.heap[g1]? = some (.cells #[.int .i64 t] 3 (0, 0)))
    (hr : Kd.C k50 w A l.length l) (hc : l.length ≤ c) (h : clock_around.f d l loc = some (r1, r2)) :
    Calls Try.prog 40 #[.int .i64 loc, .pointer (some ⟨g0, 0, none⟩), .pointer (some ⟨g1, 0, none⟩)] w fun e w' => e = .returned (.bool (decide (t < r1))) ∧ Below w.heap.size w w' := by
  have hz0 : w.cell? ⟨g0, 0, none⟩ = some (.int .i64 d) := (blk_cell hb 0).trans rfl
  have hz1 : w.cell? ⟨g0, 1, none⟩ = some (.slice A l.length c) := (blk_cell hb 1).trans rfl
  have hy0 : w.cell? ⟨g1, 0, none⟩ = some (.int .i64 t) := (blk_cell ht 0).trans rfl
  have hcall : ∀ W, Below w.heap.size w W → Calls Try.prog 36 #[.agg #[.int .i64 d, .slice A l.length c], .int .i64 loc] W fun e w' => e = .returned (.agg #[.int .i64 r1, .int .i64 r2]) ∧ Below W.heap.size W w' ∧ w'.cell? ⟨g1, 0, none⟩ = some (.int .i64 t) := fun W hW =>
    (clock_around.calls d A c l loc r1 r2 W (Kd.C_below hr hW) hc h).mono fun e w' ⟨he, hb'⟩ => ⟨he, hb', (blk_cell (blk_below (blk_below ht hW) hb') 0).trans rfl⟩
  have hfl : ∀ W, Sem.run Try.prog (Instr.field 62 (.agg #[.int .i64 r1, .int .i64 r2]) 0) W = Result.ok (.int .i64 r1) W := fun _ => by kernel_rfl
  have HCALL := Aside0.mk hcall
  clear hb ht hr hc h hcall
  go_enter Try.func40, Try.ntmps40
  go_wp2
  go_region_with (go_at_call 36; (with_reducible refine (HCALL.out _ (by repeat (first | exact Below.refl _ _ | apply below_drew1))).mono ?_); rintro e w1 ⟨rfl, hb1, hy1⟩; have HB1 := Aside0.mk hb1; clear hb1)
  all_goals (go_wp2; go_ret; exact ⟨rfl, by repeat (first | (with_reducible exact below_step (by repeat (first | exact Below.refl _ _ | apply below_drew1)) HB1.out) | apply below_drew1 | apply pw_below_drewN)⟩)

/-- What Reads keeps while it goes on: its two boxed variables, and what was there before. -/
def RB (d : Int) (A : Option Addr) (n c : Nat) (t : Int) (w W : World) : Prop :=
  W.heap[w.heap.size]? = some (.cells #[.int .i64 d, .slice A n c] 24 (0, 0)) ∧ W.heap[w.heap.size + 1]? = some (.cells #[.int .i64 t] 3 (0, 0)) ∧ Below w.heap.size w W
theorem rb_step {d : Int} {A : Option Addr} {n c : Nat} {t : Int} {w W W' : World} (h : RB d A n c t w W) (hb : Below W.heap.size W W') : RB d A n c t w W' :=
  ⟨blk_below h.1 hb, blk_below h.2.1 hb, below_step h.2.2 hb⟩
theorem rb_start (d : Int) (A : Option Addr) (n c : Nat) (t : Int) (w : World) : RB d A n c t w ((w.alloc (.cells #[.int .i64 d, .slice A n c] 24)).alloc (.cells #[.int .i64 t] 3)) := by
  refine ⟨blk_alloc (heap_alloc_new _ _) _, ?_, ((Below.refl _ w).alloc (Nat.le_refl _) _).alloc (by simp) _⟩
  have := heap_alloc_new (w.alloc (.cells #[.int .i64 d, .slice A n c] 24)) (.cells #[.int .i64 t] 3)
  rwa [World.size_alloc] at this
theorem search_hi (d : Int) (A : Option Addr) (c : Nat) (l : List S50) (t : Int) (w W : World) (hr : Kd.C k50 w A l.length l) (hc : l.length ≤ c) (hf : fine d l 0 = true) (hW : RB d A l.length c t w W) :
    Calls Try.prog 38 #[.int .i64 10000001, .func (.func 39) #[] #[.pointer (some ⟨w.heap.size, 0, none⟩), .pointer (some ⟨w.heap.size + 1, 0, none⟩)]] W fun e w' =>
      e = .returned (.int .i64 (firstI (fun i => decide (t ≤ arHi d i 10000000 l)) 10000001 0)) ∧ RB d A l.length c t w w' := by
  have hd : 0 ≤ d ∧ d ≤ 100 := by simp only [fine, Bool.and_eq_true, decide_eq_true_eq] at hf; omega
  refine (search39 (fun i => decide (t ≤ arHi d i 10000000 l)) _ _ W ?_).mono ?_
  · intro i V h0 h1 hV
    have hRB := rb_step hW hV
    exact closure39 _ _ d A c l t i _ _ V hRB.1 hRB.2.1 (Kd.C_below hr hRB.2.2) hc (by unfold clock_around.f; rw [if_pos (rd_fine hf i h0 (by omega))])
  · rintro e w' ⟨r, rfl, hF, hb⟩
    refine ⟨?_, rb_step hW hb⟩
    rw [found_first _ 10000001 r hF.out (fun a b hab h => by
      have := arHi_mono d a b l hd.1 hd.2 hab 10000000 10000000 (by omega)
      simp only [decide_eq_true_eq] at h ⊢
      omega)]
theorem search_lo (d : Int) (A : Option Addr) (c : Nat) (l : List S50) (t : Int) (w W : World) (hr : Kd.C k50 w A l.length l) (hc : l.length ≤ c) (hf : fine d l 0 = true) (hW : RB d A l.length c t w W) :
    Calls Try.prog 38 #[.int .i64 10000001, .func (.func 40) #[] #[.pointer (some ⟨w.heap.size, 0, none⟩), .pointer (some ⟨w.heap.size + 1, 0, none⟩)]] W fun e w' =>
      e = .returned (.int .i64 (firstI (fun i => decide (t < arLo d i 0 l)) 10000001 0)) ∧ RB d A l.length c t w w' := by
  have hd : 0 ≤ d ∧ d ≤ 100 := by simp only [fine, Bool.and_eq_true, decide_eq_true_eq] at hf; omega
  refine (search40 (fun i => decide (t < arLo d i 0 l)) _ _ W ?_).mono ?_
  · intro i V h0 h1 hV
    have hRB := rb_step hW hV
    exact closure40 _ _ d A c l t i _ _ V hRB.1 hRB.2.1 (Kd.C_below hr hRB.2.2) hc (by unfold clock_around.f; rw [if_pos (rd_fine hf i h0 (by omega))])
  · rintro e w' ⟨r, rfl, hF, hb⟩
    refine ⟨?_, rb_step hW hb⟩
    rw [found_first _ 10000001 r hF.out (fun a b hab h => by
      have := arLo_mono d a b l hd.1 hd.2 hab 0 0 (by omega)
      simp only [decide_eq_true_eq] at h ⊢
      omega)]
set_option maxHeartbeats 8000000 in
set_option maxRecDepth 100000 in
theorem clock_Reads.calls (a0_0 : Int) (A0_1 : Option Addr) (c0_1 : Nat) (l0_1 : List S50) (a1 r1 r2 r3 : Int) (w : World) (hr0_1 : Kd.C k50 w A0_1 l0_1.length l0_1) (hc0_1 : l0_1.length ≤ c0_1) (h : clock_Reads.f a0_0 l0_1 a1 = some (r1, r2, r3)) :
    Calls Try.prog 22 #[.agg #[.int .i64 a0_0, .slice A0_1 l0_1.length c0_1], .int .i64 a1] w fun e w' => e = .returned (.tuple #[.int .i64 r1, .int .i64 r2, .int .i64 r3]) ∧ Below w.heap.size w w' := by
  obtain ⟨v, hv⟩ : ∃ v, clock_Valid.f 200 a0_0 l0_1 = some v := by
    unfold clock_Reads.f at h
    cases hv : clock_Valid.f 200 a0_0 l0_1 with
    | none => rw [hv] at h; cases h
    | some v => exact ⟨v, rfl⟩
  have hval : ∀ W, RB a0_0 A0_1 l0_1.length c0_1 a1 w W → Calls Try.prog 17 #[.agg #[.int .i64 a0_0, .slice A0_1 l0_1.length c0_1]] W fun e w' => e = .returned (.bool v) ∧ RB a0_0 A0_1 l0_1.length c0_1 a1 w w' := fun W hW =>
    (clock_Valid.calls 200 a0_0 A0_1 c0_1 l0_1 v W (Kd.C_below hr0_1 hW.2.2) hc0_1 hv).mono fun e w' ⟨he, hb⟩ => ⟨he, rb_step hW hb⟩
  have HVAL := Aside0.mk hval
  have HST := Aside0.mk (rb_start a0_0 A0_1 l0_1.length c0_1 a1 w)
  have hcell : ∀ W, RB a0_0 A0_1 l0_1.length c0_1 a1 w W → W.cell? ⟨w.heap.size + 1, 0, none⟩ = some (.int .i64 a1) := fun W hW => (blk_cell hW.2.1 0).trans rfl
  have HCE := Aside0.mk hcell
  clear hcell hval
  unfold clock_Reads.f at h
  rw [hv] at h
  clear hv
  cases v with
  | false =>
    simp only [Option.some.injEq, Prod.mk.injEq] at h
    obtain ⟨rfl, rfl, rfl⟩ := h
    clear hr0_1 hc0_1
    go_enter Try.func22, Try.ntmps22
    go_wp2_with (go_at_call 17; (with_reducible refine (HVAL.out _ HST.out).mono ?_); rintro e w1 ⟨rfl, hb⟩; have HB := Aside0.mk hb; clear hb)
    go_ret3
    exact ⟨rfl, HB.out.2.2⟩
  | true =>
    by_cases c1 : a1 < 0
    · rw [if_pos (Or.inl c1)] at h
      simp only [Option.some.injEq, Prod.mk.injEq] at h
      obtain ⟨rfl, rfl, rfl⟩ := h
      have c1b : decide (a1 < 0) = true := decide_eq_true c1
      clear hr0_1 hc0_1 c1
      go_enter Try.func22, Try.ntmps22
      go_wp2_with (go_at_call 17; (with_reducible refine (HVAL.out _ HST.out).mono ?_); rintro e w1 ⟨rfl, hb⟩; have hz := HCE.out _ hb; have HB := Aside0.mk hb; clear hb)
      go_ret3
      exact ⟨rfl, HB.out.2.2⟩
    · have c1b : decide (a1 < 0) = false := decide_eq_false c1
      by_cases c2 : 10000000 < a1
      · rw [if_pos (Or.inr c2)] at h
        simp only [Option.some.injEq, Prod.mk.injEq] at h
        obtain ⟨rfl, rfl, rfl⟩ := h
        have c2b : decide (10000000 < a1) = true := decide_eq_true c2
        clear hr0_1 hc0_1 c1 c2
        go_enter Try.func22, Try.ntmps22
        go_wp2_with (go_at_call 17; (with_reducible refine (HVAL.out _ HST.out).mono ?_); rintro e w1 ⟨rfl, hb⟩; have hz := HCE.out _ hb; have HB := Aside0.mk hb; clear hb)
        go_ret3
        exact ⟨rfl, HB.out.2.2⟩
      · have c2b : decide (10000000 < a1) = false := decide_eq_false c2
        rw [if_neg (by omega)] at h
        by_cases hf : fine a0_0 l0_1 0 = true
        · rw [if_pos hf] at h
          have hs1 := fun W => search_hi a0_0 A0_1 c0_1 l0_1 a1 w W hr0_1 hc0_1 hf
          have hs2 := fun W => search_lo a0_0 A0_1 c0_1 l0_1 a1 w W hr0_1 hc0_1 hf
          have t1 := firstI_tells (fun i => decide (a1 ≤ arHi a0_0 i 10000000 l0_1)) 10000001 0
          have t2 := firstI_tells (fun i => decide (a1 < arLo a0_0 i 0 l0_1)) 10000001 0
          generalize firstI (fun i => decide (a1 ≤ arHi a0_0 i 10000000 l0_1)) 10000001 0 = x at h hs1 t1
          generalize firstI (fun i => decide (a1 < arLo a0_0 i 0 l0_1)) 10000001 0 = y at h hs2 t2
          have b1 : 0 ≤ x ∧ x ≤ 10000001 := by omega
          have b2 : 0 ≤ y ∧ y ≤ 10000001 := by omega
          have HS1 := Aside0.mk hs1
          have HS2 := Aside0.mk hs2
          clear t1 t2 hs1 hs2 hf hr0_1 hc0_1 c1 c2
          by_cases hxy : y ≤ x
          · rw [if_pos hxy] at h
            simp only [Option.some.injEq, Prod.mk.injEq] at h
            obtain ⟨rfl, rfl, rfl⟩ := h
            go_enter Try.func22, Try.ntmps22
            go_wp2_with (first
              | (go_at_call 17; (with_reducible refine (HVAL.out _ HST.out).mono ?_); rintro e w1 ⟨rfl, hb⟩; have hz := HCE.out _ hb; have HB := Aside0.mk hb; clear hb)
              | (go_at_call 38; (with_reducible refine (HS1.out _ HB.out).mono ?_); rintro e w2 ⟨rfl, hb⟩; have HB2 := Aside0.mk hb; clear hb)
              | (go_at_call 38; (with_reducible refine (HS2.out _ HB2.out).mono ?_); rintro e w3 ⟨rfl, hb⟩; have HB3 := Aside0.mk hb; clear hb))
            go_ret3
            exact ⟨rfl, HB3.out.2.2⟩
          · rw [if_neg hxy] at h
            simp only [Option.some.injEq, Prod.mk.injEq] at h
            obtain ⟨rfl, rfl, rfl⟩ := h
            go_enter Try.func22, Try.ntmps22
            go_wp2_with (first
              | (go_at_call 17; (with_reducible refine (HVAL.out _ HST.out).mono ?_); rintro e w1 ⟨rfl, hb⟩; have hz := HCE.out _ hb; have HB := Aside0.mk hb; clear hb)
              | (go_at_call 38; (with_reducible refine (HS1.out _ HB.out).mono ?_); rintro e w2 ⟨rfl, hb⟩; have HB2 := Aside0.mk hb; clear hb)
              | (go_at_call 38; (with_reducible refine (HS2.out _ HB2.out).mono ?_); rintro e w3 ⟨rfl, hb⟩; have HB3 := Aside0.mk hb; clear hb))
            repeat (go_quiet (fail); try go_wp2)
            go_ret3
            exact ⟨rfl, by repeat (first | exact HB3.out.2.2 | apply below_drew1 | apply pw_below_drewN)⟩
        · rw [if_neg hf] at h
          cases h
end Go.Proofs.Ythbonailomfjlaa.C
