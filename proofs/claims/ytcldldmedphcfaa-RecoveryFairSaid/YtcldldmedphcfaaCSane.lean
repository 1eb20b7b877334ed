import Derived.Test.YtcldldmedphcfaaQBase
import Derived.Test.YtcldldmedphcfaaQEval
import Derived.Test.YtcldldmedphcfaaCExample
import Derived.Test.YtcldldmedphcfaaHStorm
import Derived.LoopN
/- The contract of dialtonelaw34.sane: it returns true; by hand: every callee's answer is known. Condition: none. -/
namespace Go.Proofs.Ytcldldmedphcfaa.C
open Go.RowKit Go.Proofs.YtcldldmedphcfaaW.PrintWords Go.Proofs.YtcldldmedphcfaaW.PrintLast Go.Proofs.YtcldldmedphcfaaW.PrintMore
set_option linter.unusedVariables false
set_option linter.unusedSimpArgs false
def exR : List S39 := [⟨4, 0, 0⟩]
def exT : List S39 := exP.take 1
theorem ex_stormq' : recovery_Storm.f exS 2 exL 1 = some (exR, 0, 0) := ex_stormq
def exY : List Int := [3, 2, 1, 2, 0]
def dialtonelaw34_sane.f (k : Nat) : Option Bool := some true
theorem dialtonelaw34_sane.mono : ∀ k, LeO (dialtonelaw34_sane.f k) (dialtonelaw34_sane.f (k + 1)) := fun _ => LeO.refl _
/-- What of the world is known on the way. -/
structure SF (w W : World) (b1 b3 : Nat) (A1 A2 A3 : Option Addr) (c1 c2 c3 : Nat) (TS : List (Option Addr × Nat × List S39)) (J : List (Option Addr × List Int)) : Prop where
  below : Below w.heap.size w W
  r : W.heap[b1]? = some (.cells #[.slice A1 exS.length c1, .int .i64 4] 26 (0, 0))
  q : W.heap[b3]? = some (.cells #[.slice A3 exS.length c3, .int .i64 2] 26 (0, 0))
  s1 : Kd.C k67 W A1 exS.length exS
  h1 : exS.length ≤ c1
  l : Kd.C k60 W A2 exL.length exL
  h2 : exL.length ≤ c2
  s3 : Kd.C k67 W A3 exS.length exS
  h3 : exS.length ≤ c3
  ts : ∀ t ∈ TS, Kd.C k39 W t.1 t.2.2.length t.2.2 ∧ t.2.2.length ≤ t.2.1
  js : ∀ t ∈ J, Kd.C kI W t.1 t.2.length t.2
section
variable {w W W1 : World} {b1 b3 : Nat} {A1 A2 A3 : Option Addr} {c1 c2 c3 : Nat} {TS : List (Option Addr × Nat × List S39)} {J : List (Option Addr × List Int)}
theorem SF.step (h : SF w W b1 b3 A1 A2 A3 c1 c2 c3 TS J) (hb : Below W.heap.size W W1) : SF w W1 b1 b3 A1 A2 A3 c1 c2 c3 TS J :=
  ⟨below_step h.below hb, blk_below h.r hb, blk_below h.q hb, Kd.C_below h.s1 hb, h.h1, Kd.C_below h.l hb, h.h2, Kd.C_below h.s3 hb, h.h3, fun t ht => ⟨Kd.C_below (h.ts t ht).1 hb, (h.ts t ht).2⟩, fun t ht => Kd.C_below (h.js t ht) hb⟩
theorem SF.add (h : SF w W b1 b3 A1 A2 A3 c1 c2 c3 TS J) (A : Option Addr) (c : Nat) (l : List S39) (hl : l.length ≤ c ∧ Kd.C k39 W A l.length l) : SF w W b1 b3 A1 A2 A3 c1 c2 c3 ((A, c, l) :: TS) J :=
  ⟨h.below, h.r, h.q, h.s1, h.h1, h.l, h.h2, h.s3, h.h3, fun t ht => by
    rcases List.mem_cons.1 ht with rfl | ht
    · exact ⟨hl.2, hl.1⟩
    · exact h.ts t ht, h.js⟩
theorem SF.addJ (h : SF w W b1 b3 A1 A2 A3 c1 c2 c3 TS J) (A : Option Addr) (l : List Int) (hl : Kd.C kI W A l.length l) : SF w W b1 b3 A1 A2 A3 c1 c2 c3 TS ((A, l) :: J) :=
  ⟨h.below, h.r, h.q, h.s1, h.h1, h.l, h.h2, h.s3, h.h3, h.ts, fun t ht => by
    rcases List.mem_cons.1 ht with rfl | ht
    · exact hl
    · exact h.js t ht⟩
theorem SF.cells (h : SF w W b1 b3 A1 A2 A3 c1 c2 c3 TS J) : W.cell? ⟨b1, 0, none⟩ = some (.slice A1 exS.length c1) ∧ W.cell? ⟨b1, 1, none⟩ = some (.int .i64 4) ∧ W.cell? ⟨b3, 0, none⟩ = some (.slice A3 exS.length c3) ∧ W.cell? ⟨b3, 1, none⟩ = some (.int .i64 2) :=
  ⟨(blk_cell h.r 0).trans rfl, (blk_cell h.r 1).trans rfl, (blk_cell h.q 0).trans rfl, (blk_cell h.q 1).trans rfl⟩
end
theorem exY_reps (W : World) (b : Nat) (okp : Nat → Prop) : Reps (kI.M W b okp) kI.sz exY [.int .i64 3, .int .i64 2, .int .i64 1, .int .i64 2, .int .i64 0] := by
  refine ⟨rfl, fun j p hj => ?_⟩
  match j, hj with
  | 0, hj => cases hj; rfl
  | 1, hj => cases hj; rfl
  | 2, hj => cases hj; rfl
  | 3, hj => cases hj; rfl
  | 4, hj => cases hj; rfl
  | n + 5, hj => simp [exY] at hj
theorem exY_ok (i : Int) (h : 0 ≤ i ∧ i < 5) : loadFn exO exP i = rd exY i := by
  have hh : i = 0 ∨ i = 1 ∨ i = 2 ∨ i = 3 ∨ i = 4 := by omega
  rcases hh with rfl | rfl | rfl | rfl | rfl
  · exact (show loadFn exO exP 0 = rd exY 0 by kernel_rfl)
  · exact (show loadFn exO exP 1 = rd exY 1 by kernel_rfl)
  · exact (show loadFn exO exP 2 = rd exY 2 by kernel_rfl)
  · exact (show loadFn exO exP 3 = rd exY 3 by kernel_rfl)
  · exact (show loadFn exO exP 4 = rd exY 4 by kernel_rfl)
set_option maxHeartbeats 16000000 in
set_option maxRecDepth 100000 in
theorem dialtonelaw34_sane.calls (k : Nat) (r : Bool) (w : World) (h : dialtonelaw34_sane.f k = some r) : Calls Try.prog 13 #[] w fun e w' => e = .returned (.bool r) ∧ Below w.heap.size w w' := by
  obtain rfl := Option.some.inj h
  clear h
  obtain ⟨kL, hL⟩ := Ev.rounds (last_ok (ex_plan 4 (Or.inl rfl)) (by decide : exP.length < 100000))
  rw [show lastOf (-1) exP = 3 by kernel_rfl] at hL
  obtain ⟨kC, hC⟩ := Ev.rounds (capacity_ok (ex_valid 4 (Or.inl rfl)) 3 (by omega))
  rw [show capL exS 3 = 2 by kernel_rfl] at hC
  obtain ⟨kS, hS⟩ := Ev.rounds (same_ok exP exP (by decide))
  rw [show sameB exP exP = true by kernel_rfl] at hS
  obtain ⟨kQ, hQ⟩ := Ev.rounds (same_ok exQ exQ (by decide))
  rw [show sameB exQ exQ = true by kernel_rfl] at hQ
  obtain ⟨kT, hT⟩ := Ev.rounds (same_ok exR exT (by decide))
  rw [show sameB exR exT = true by kernel_rfl] at hT
  obtain ⟨kP, hP⟩ := Ev.rounds (check_ok (ex_plan 4 (Or.inl rfl)) exP (by decide))
  rw [show sameB exP exP = true by kernel_rfl] at hP
  obtain ⟨kN, hN⟩ := Ev.rounds (check_ok (ex_plan 4 (Or.inl rfl)) exQ (by decide))
  rw [show sameB exQ exP = false by kernel_rfl] at hN
  obtain ⟨kV, hV⟩ := Ev.rounds (valid_ok exS 4)
  rw [ex_valid 4 (Or.inl rfl)] at hV
  obtain ⟨kW, hW⟩ := Ev.rounds (valid_ok [] 1)
  rw [show validB [] 1 = false by kernel_rfl] at hW
  have hR : recovery_Ready.f exL = some true := by kernel_rfl
  have hR2 : recovery_Ready.f [⟨-1, 0, false⟩] = some false := by kernel_rfl
  have HL := Aside0.mk hL
  have HC := Aside0.mk hC
  have HS := Aside0.mk hS
  have HQ := Aside0.mk hQ
  have HT := Aside0.mk hT
  have HP := Aside0.mk hP
  have HN := Aside0.mk hN
  have HV := Aside0.mk hV
  have HW := Aside0.mk hW
  have HR := Aside0.mk hR
  have HR2 := Aside0.mk hR2
  have hlp : 1 ≤ exP.length := by decide
  clear hL hC hS hQ hT hP hN hV hW hR hR2
  go_enter Try.func13, Try.ntmps13
  go_upto_region 2 with (first
      | (go_at_call 39; (refine (dialtonelaw34_example.calls 4 exS 4 exL w rfl).mono ?_); rintro e w1 ⟨v0, v2, rfl, ho0, ho2, hb1⟩; obtain ⟨A1, c1, rfl⟩ := Kd.R_slice ho0; obtain ⟨A2, c2, rfl⟩ := Kd.R_slice ho2; have H01 := Aside0.mk (Kd.R_reads' ho0).2; have H02 := Aside0.mk (Kd.R_reads' ho2).2; have HB1 := Aside0.mk hb1; clear ho0 ho2 hb1; obtain ⟨wa, hwa⟩ : ∃ wa, w1.alloc (.cells #[.slice A1 exS.length c1, .int .i64 4] 26) = wa := ⟨_, rfl⟩; have HBA := Aside0.mk (show Below w1.heap.size w1 wa by rw [← hwa]; exact below_alloc (Below.refl _ _) _); have HKA := Aside0.mk (show wa.heap[w1.heap.size]? = some (.cells #[.slice A1 exS.length c1, .int .i64 4] 26 (0, 0)) by rw [← hwa]; exact heap_alloc_new _ _))
      | go_in)
  go_upto_region 3 with (first
      | (go_at_call 39; (refine (dialtonelaw34_example.calls 2 exS 2 exL wa rfl).mono ?_); rintro e w2 ⟨v3, v4, rfl, ho3, ho4, hb2⟩; obtain ⟨A3, c3, rfl⟩ := Kd.R_slice ho3; obtain ⟨A4, c4, rfl⟩ := Kd.R_slice ho4; obtain ⟨wb, hwb⟩ : ∃ wb, w2.alloc (.cells #[.slice A3 exS.length c3, .int .i64 2] 26) = wb := ⟨_, rfl⟩; have hbb : Below w2.heap.size w2 wb := (by rw [← hwb]; exact below_alloc (Below.refl _ _) _); have hkb : wb.heap[w2.heap.size]? = some (.cells #[.slice A3 exS.length c3, .int .i64 2] 26 (0, 0)) := (by rw [← hwb]; exact heap_alloc_new _ _); have hab := below_step HBA.out (below_step hb2 hbb); have F0 := Aside0.mk (show SF w wb w1.heap.size w2.heap.size A1 A2 A3 c1 c2 c3 [] [] from ⟨below_step HB1.out hab, blk_below HKA.out (below_step hb2 hbb), hkb, Kd.C_below H01.out.2 hab, H01.out.1, Kd.C_below H02.out.2 hab, H02.out.1, Kd.C_below (Kd.R_reads' ho3).2.2 hbb, (Kd.R_reads' ho3).2.1, (fun _ ht => absurd ht (List.not_mem_nil)), (fun _ ht => absurd ht (List.not_mem_nil))⟩); obtain ⟨x0a, x0b, x0c, x0d⟩ := F0.out.cells; clear ho3 ho4 hb2 hbb hkb hab)
      | go_in)
  go_upto_region 4 with (first
      | (go_at_call 16; (refine (recovery_Plan.calls A1 c1 exS 4 A2 c2 exL exP 0 wb F0.out.s1 F0.out.h1 F0.out.l F0.out.h2 (ex_plan 4 (Or.inl rfl))).mono ?_); rintro e w3 ⟨v5, rfl, ho, hb⟩; obtain ⟨A5, c5, rfl⟩ := Kd.R_slice ho; have F1 := Aside0.mk ((F0.out.step hb).add A5 c5 exP (Kd.R_reads' ho).2); obtain ⟨x1a, x1b, x1c, x1d⟩ := F1.out.cells; clear ho hb)
      | go_in)
  go_upto_region 5 with (first
      | ((with_reducible refine gate_dst (N := 52) rfl ?_); refine Kd.R_lit k39 _ 39 ?hg (N := 52) ?hd (xs := exP) (inner := [.int .i64 4, .int .i64 0, .int .i64 0, .int .i64 5, .int .i64 0, .int .i64 0, .int .i64 6, .int .i64 0, .int .i64 1, .int .i64 7, .int .i64 0, .int .i64 2, .int .i64 8, .int .i64 1, .int .i64 3, .int .i64 9, .int .i64 3, .int .i64 3]) (ok := fun _ => True) (okp := fun _ => True) ?hr ?hp (fun _ hk => hk) trivial (Below.refl _ _) (Nat.le_refl _) (by decide) ?_; (case hd => rfl); (case hg => rfl); (case hr => first | (go_simp; done) | (go_simp; rfl)); (case hp => exact (Reps.c3 (show Kd.M k39 _ _ _ (⟨4, 0, 0⟩ : S39) [.int .i64 4, .int .i64 0, .int .i64 0] from k39_mkM _ _ _ (⟨4, 0, 0⟩ : S39)) (Reps.c3 (show Kd.M k39 _ _ _ (⟨5, 0, 0⟩ : S39) [.int .i64 5, .int .i64 0, .int .i64 0] from k39_mkM _ _ _ (⟨5, 0, 0⟩ : S39)) (Reps.c3 (show Kd.M k39 _ _ _ (⟨6, 0, 1⟩ : S39) [.int .i64 6, .int .i64 0, .int .i64 1] from k39_mkM _ _ _ (⟨6, 0, 1⟩ : S39)) (Reps.c3 (show Kd.M k39 _ _ _ (⟨7, 0, 2⟩ : S39) [.int .i64 7, .int .i64 0, .int .i64 2] from k39_mkM _ _ _ (⟨7, 0, 2⟩ : S39)) (Reps.c3 (show Kd.M k39 _ _ _ (⟨8, 1, 3⟩ : S39) [.int .i64 8, .int .i64 1, .int .i64 3] from k39_mkM _ _ _ (⟨8, 1, 3⟩ : S39)) (Reps.c3 (show Kd.M k39 _ _ _ (⟨9, 3, 3⟩ : S39) [.int .i64 9, .int .i64 3, .int .i64 3] from k39_mkM _ _ _ (⟨9, 3, 3⟩ : S39)) (Reps.none _ _)))))))); intro v7 w4 ho hb _ _; obtain ⟨Av7, cv7, rfl⟩ := Kd.R_slice ho; have F2 := Aside0.mk ((F1.out.step hb).add Av7 cv7 exP (Kd.R_reads' ho).2); obtain ⟨x2a, x2b, x2c, x2d⟩ := F2.out.cells; clear ho hb)
      | go_in)
  go_wp2_with (first
      | ((with_reducible refine gate_dst (N := 53) rfl ?_); refine Kd.R_lit kI _ 3 ?hg (N := 53) ?hd (xs := exY) (inner := [.int .i64 3, .int .i64 2, .int .i64 1, .int .i64 2, .int .i64 0]) (ok := fun _ => True) (okp := fun _ => True) ?hr ?hp (fun _ hk => hk) trivial (Below.refl _ _) (Nat.le_refl _) (by decide) ?_; (case hd => rfl); (case hg => rfl); (case hr => first | (go_simp; done) | (go_simp; rfl)); (case hp => exact exY_reps _ _ _); intro vy w5 ho hb _ _; obtain ⟨AY, cY, rfl⟩ := Kd.R_slice ho; have F3 := Aside0.mk ((F2.out.step hb).addJ AY exY (Kd.R_reads' ho).2.2); obtain ⟨x3a, x3b, x3c, x3d⟩ := F3.out.cells; clear ho hb)
      | go_in)
  go_loopw [55] (fun v wr => ∃ i : Int, v = .int .i64 i ∧ 0 ≤ i ∧ i ≤ 5 ∧ Aside0 (SF w wr w1.heap.size w2.heap.size A1 A2 A3 c1 c2 c3 [(Av7, cv7, exP), (A5, c5, exP)] [(AY, exY)])) (fun v _ => match v with | .int _ i => (5 - i).toNat | _ => 0)
  case atStart => exact ⟨0, rfl, by omega, by omega, F3⟩
  case round =>
    obtain ⟨i, rfl, hi0, hi5, FR⟩ := hrel
    obtain ⟨xRa, xRb, xRc, xRd⟩ := FR.out.cells
    by_cases hi : i < 5
    · have hd : decide (i < (exY.length : Int)) = true := decide_eq_true hi
      have q0 : i < (exY.length : Int) := hi
      obtain ⟨ady, ey, hxy⟩ := Kd.at_int (FR.out.js _ (List.mem_cons_self ..)) i hi0 q0
      dsimp only at ey
      cases ey
      have HI := Aside0.mk (And.intro hi0 hi)
      have HLD : Aside0 (recovery_Load.f exS 4 exL i = some (rd exY i, 0)) := ⟨(ex_load i (by omega)).trans (by rw [exY_ok i ⟨hi0, hi⟩])⟩
      have hne : (rd exY i != rd exY i) = false := bne_self_eq_false ..
      have p0 := eq_true hi0
      replace q0 := eq_true q0
      have hw : wrap64 (i + 1) = i + 1 := by unfold wrap64; omega
      clear hi hi0 hi5
      go_wp2_with (first
        | (go_at_call 32; (refine (recovery_Load.calls A1 c1 exS 4 A2 c2 exL i (rd exY i) 0 wr FR.out.s1 FR.out.h1 FR.out.l FR.out.h2 HLD.out).mono ?_); rintro e wl ⟨rfl, hbl⟩; have FL := Aside0.mk (FR.out.step hbl); clear hbl)
        | go_in)
      go_roundw
      case rel => exact ⟨wrap64 (i + 1), rfl, by rw [hw]; have := HI.out; omega, by rw [hw]; have := HI.out; omega, FL⟩
      case measure => have := HI.out; simp only [hw]; omega
    · have hd : decide (i < (exY.length : Int)) = false := decide_eq_false hi
      clear hi hi0 hi5
      go_upto_region 12 with (fail)
      go_upto_region 13 with (first
        | (go_at_call 24; (with_reducible refine (recovery_Safe.calls A1 c1 exS 4 A2 c2 exL (-1) true wr FR.out.s1 FR.out.h1 FR.out.l FR.out.h2 ex_safe4).mono ?_); rintro e w11 ⟨rfl, hb⟩; have F11 := Aside0.mk (FR.out.step hb); obtain ⟨xF11a, xF11b, xF11c, xF11d⟩ := F11.out.cells; clear hb)
        | go_in)
      go_upto_region 14 with (first
        | (go_at_call 24; (with_reducible refine (recovery_Safe.calls A3 c3 exS 2 A2 c2 exL 0 false w11 F11.out.s3 F11.out.h3 F11.out.l F11.out.h2 ex_safe2).mono ?_); rintro e w12 ⟨rfl, hb⟩; have F12 := Aside0.mk (F11.out.step hb); obtain ⟨xF12a, xF12b, xF12c, xF12d⟩ := F12.out.cells; clear hb)
        | go_in)
      go_upto_region 15 with (first
        | (go_at_call 26; (with_reducible refine (recovery_Last.calls kL A1 c1 exS 4 A2 c2 exL 3 0 w12 F12.out.s1 F12.out.h1 F12.out.l F12.out.h2 HL.out).mono ?_); rintro e w13 ⟨rfl, hb⟩; have F13 := Aside0.mk (F12.out.step hb); obtain ⟨xF13a, xF13b, xF13c, xF13d⟩ := F13.out.cells; clear hb)
        | go_in)
      go_upto_region 16 with (first
        | (go_at_call 17; (with_reducible refine (recovery_Storm.calls A1 c1 exS 4 A2 c2 exL 1 exP (-1) 0 w13 F13.out.s1 F13.out.h1 F13.out.l F13.out.h2 ex_storm1).mono ?_); rintro e w14 ⟨vAs1, rfl, ho, hb⟩; obtain ⟨As1, cAs1, rfl⟩ := Kd.R_slice ho; have F14 := Aside0.mk ((F13.out.step hb).add As1 cAs1 exP (Kd.R_reads' ho).2); obtain ⟨xF14a, xF14b, xF14c, xF14d⟩ := F14.out.cells; clear ho hb)
        | go_in)
      go_upto_region 17 with (first
        | (go_at_call 17; (with_reducible refine (recovery_Storm.calls A1 c1 exS 4 A2 c2 exL 2 exQ (-1) 0 w14 F14.out.s1 F14.out.h1 F14.out.l F14.out.h2 ex_storm2).mono ?_); rintro e w15 ⟨vAs2, rfl, ho, hb⟩; obtain ⟨As2, cAs2, rfl⟩ := Kd.R_slice ho; have F15 := Aside0.mk ((F14.out.step hb).add As2 cAs2 exQ (Kd.R_reads' ho).2); obtain ⟨xF15a, xF15b, xF15c, xF15d⟩ := F15.out.cells; clear ho hb)
        | go_in)
      go_upto_region 18 with (first
        | (go_at_call 17; (with_reducible refine (recovery_Storm.calls A3 c3 exS 2 A2 c2 exL 1 exR 0 0 w15 F15.out.s3 F15.out.h3 F15.out.l F15.out.h2 ex_stormq').mono ?_); rintro e w16 ⟨vAs3, rfl, ho, hb⟩; obtain ⟨As3, cAs3, rfl⟩ := Kd.R_slice ho; have F16 := Aside0.mk ((F15.out.step hb).add As3 cAs3 exR (Kd.R_reads' ho).2); obtain ⟨xF16a, xF16b, xF16c, xF16d⟩ := F16.out.cells; clear ho hb)
        | go_in)
      go_upto_region 19 with (first
        | (go_at_call 34; (with_reducible refine (recovery_Capacity.calls kC A1 c1 exS 4 3 2 0 w16 F16.out.s1 F16.out.h1 HC.out).mono ?_); rintro e w17 ⟨rfl, hb⟩; have F17 := Aside0.mk (F16.out.step hb); obtain ⟨xF17a, xF17b, xF17c, xF17d⟩ := F17.out.cells; clear hb)
        | go_in)
      go_upto_region 21 with (first
        | go_in)
      go_upto_region 22 with (first
        | ((with_reducible refine gate_dst (N := 147) rfl ?_); refine Kd.R_lit k39 _ 39 ?hg (N := 147) ?hd (xs := exQ) (inner := [.int .i64 4, .int .i64 0, .int .i64 0, .int .i64 5, .int .i64 0, .int .i64 0, .int .i64 6, .int .i64 0, .int .i64 2, .int .i64 7, .int .i64 0, .int .i64 4, .int .i64 8, .int .i64 1, .int .i64 1, .int .i64 9, .int .i64 3, .int .i64 3]) (ok := fun _ => True) (okp := fun _ => True) ?hr ?hp (fun _ hk => hk) trivial (Below.refl _ _) (Nat.le_refl _) (by decide) ?_; (case hd => rfl); (case hg => rfl); (case hr => first | (go_simp; done) | (go_simp; rfl)); (case hp => exact (Reps.c3 (show Kd.M k39 _ _ _ (⟨4, 0, 0⟩ : S39) [.int .i64 4, .int .i64 0, .int .i64 0] from k39_mkM _ _ _ (⟨4, 0, 0⟩ : S39)) (Reps.c3 (show Kd.M k39 _ _ _ (⟨5, 0, 0⟩ : S39) [.int .i64 5, .int .i64 0, .int .i64 0] from k39_mkM _ _ _ (⟨5, 0, 0⟩ : S39)) (Reps.c3 (show Kd.M k39 _ _ _ (⟨6, 0, 2⟩ : S39) [.int .i64 6, .int .i64 0, .int .i64 2] from k39_mkM _ _ _ (⟨6, 0, 2⟩ : S39)) (Reps.c3 (show Kd.M k39 _ _ _ (⟨7, 0, 4⟩ : S39) [.int .i64 7, .int .i64 0, .int .i64 4] from k39_mkM _ _ _ (⟨7, 0, 4⟩ : S39)) (Reps.c3 (show Kd.M k39 _ _ _ (⟨8, 1, 1⟩ : S39) [.int .i64 8, .int .i64 1, .int .i64 1] from k39_mkM _ _ _ (⟨8, 1, 1⟩ : S39)) (Reps.c3 (show Kd.M k39 _ _ _ (⟨9, 3, 3⟩ : S39) [.int .i64 9, .int .i64 3, .int .i64 3] from k39_mkM _ _ _ (⟨9, 3, 3⟩ : S39)) (Reps.none _ _)))))))); intro vAQ w18 ho hb _ _; obtain ⟨AQ, cAQ, rfl⟩ := Kd.R_slice ho; have F18 := Aside0.mk ((F17.out.step hb).add AQ cAQ exQ (Kd.R_reads' ho).2); obtain ⟨xF18a, xF18b, xF18c, xF18d⟩ := F18.out.cells; clear ho hb)
        | go_in)
      go_upto_region 23 with (first
        | (go_at_call 19; have pa : Kd.C k39 w18 A5 exP.length exP ∧ exP.length ≤ c5 := F18.out.ts (A5, c5, exP) (List.mem_cons_of_mem _ (List.mem_cons_of_mem _ (List.mem_cons_of_mem _ (List.mem_cons_of_mem _ (List.mem_cons_of_mem _ (List.mem_cons_self ..)))))); have pb : Kd.C k39 w18 Av7 exP.length exP ∧ exP.length ≤ cv7 := F18.out.ts (Av7, cv7, exP) (List.mem_cons_of_mem _ (List.mem_cons_of_mem _ (List.mem_cons_of_mem _ (List.mem_cons_of_mem _ (List.mem_cons_self ..))))); (with_reducible refine (dialtoneref34_Same.calls kS A5 c5 exP Av7 cv7 exP true w18 pa.1 pa.2 pb.1 pb.2 HS.out).mono ?_); rintro e w19 ⟨rfl, hd⟩; have F19 := Aside0.mk (F18.out.step hd.below); obtain ⟨xF19a, xF19b, xF19c, xF19d⟩ := F19.out.cells; clear hd)
        | (go_at_call 20; have pb : Kd.C k39 w19 Av7 exP.length exP ∧ exP.length ≤ cv7 := F19.out.ts (Av7, cv7, exP) (List.mem_cons_of_mem _ (List.mem_cons_of_mem _ (List.mem_cons_of_mem _ (List.mem_cons_of_mem _ (List.mem_cons_self ..))))); (with_reducible refine (recovery_Check.calls kP A1 c1 exS 4 A2 c2 exL Av7 cv7 exP true w19 F19.out.s1 F19.out.h1 F19.out.l F19.out.h2 pb.1 pb.2 HP.out).mono ?_); rintro e w20 ⟨rfl, hb⟩; have F20 := Aside0.mk (F19.out.step hb); obtain ⟨xF20a, xF20b, xF20c, xF20d⟩ := F20.out.cells; clear hb)
        | (go_at_call 20; have pb : Kd.C k39 w20 AQ exQ.length exQ ∧ exQ.length ≤ cAQ := F20.out.ts (AQ, cAQ, exQ) (List.mem_cons_self ..); (with_reducible refine (recovery_Check.calls kN A1 c1 exS 4 A2 c2 exL AQ cAQ exQ false w20 F20.out.s1 F20.out.h1 F20.out.l F20.out.h2 pb.1 pb.2 HN.out).mono ?_); rintro e w21 ⟨rfl, hb⟩; have F21 := Aside0.mk (F20.out.step hb); obtain ⟨xF21a, xF21b, xF21c, xF21d⟩ := F21.out.cells; clear hb)
        | go_in)
      go_upto_region 24 with (first
        | (go_at_call 19; have pa : Kd.C k39 w21 As1 exP.length exP ∧ exP.length ≤ cAs1 := F21.out.ts (As1, cAs1, exP) (List.mem_cons_of_mem _ (List.mem_cons_of_mem _ (List.mem_cons_of_mem _ (List.mem_cons_self ..)))); have pb : Kd.C k39 w21 Av7 exP.length exP ∧ exP.length ≤ cv7 := F21.out.ts (Av7, cv7, exP) (List.mem_cons_of_mem _ (List.mem_cons_of_mem _ (List.mem_cons_of_mem _ (List.mem_cons_of_mem _ (List.mem_cons_self ..))))); (with_reducible refine (dialtoneref34_Same.calls kS As1 cAs1 exP Av7 cv7 exP true w21 pa.1 pa.2 pb.1 pb.2 HS.out).mono ?_); rintro e w22 ⟨rfl, hd⟩; have F22 := Aside0.mk (F21.out.step hd.below); obtain ⟨xF22a, xF22b, xF22c, xF22d⟩ := F22.out.cells; clear hd)
        | (go_at_call 19; have pa : Kd.C k39 w22 As2 exQ.length exQ ∧ exQ.length ≤ cAs2 := F22.out.ts (As2, cAs2, exQ) (List.mem_cons_of_mem _ (List.mem_cons_of_mem _ (List.mem_cons_self ..))); have pb : Kd.C k39 w22 AQ exQ.length exQ ∧ exQ.length ≤ cAQ := F22.out.ts (AQ, cAQ, exQ) (List.mem_cons_self ..); (with_reducible refine (dialtoneref34_Same.calls kQ As2 cAs2 exQ AQ cAQ exQ true w22 pa.1 pa.2 pb.1 pb.2 HQ.out).mono ?_); rintro e w23 ⟨rfl, hd⟩; have F23 := Aside0.mk (F22.out.step hd.below); obtain ⟨xF23a, xF23b, xF23c, xF23d⟩ := F23.out.cells; have pvv : Kd.C k39 w23 Av7 exP.length exP ∧ exP.length ≤ cv7 := F23.out.ts (Av7, cv7, exP) (List.mem_cons_of_mem _ (List.mem_cons_of_mem _ (List.mem_cons_of_mem _ (List.mem_cons_of_mem _ (List.mem_cons_self ..))))); clear hd; obtain ⟨ic, hic, _, hszc, _⟩ := info_parts info39; have hroomc : exP.length ≤ cv7 := pvv.2; have hcutc := cut_to (P := Try.prog) 30 39 .i64 Try.underlying30 hic Av7 exP.length cv7 1 (by omega) (show (1 : Int) ≤ (exP.length : Int) by decide) hroomc; have hyc : exT.length = (1 : Int).toNat := rfl; rw [← hyc] at hcutc; clear hroomc hyc)
        | (go_at_call 19; have pa : Kd.C k39 w23 As3 exR.length exR ∧ exR.length ≤ cAs3 := F23.out.ts (As3, cAs3, exR) (List.mem_cons_of_mem _ (List.mem_cons_self ..)); have pb : Kd.C k39 w23 Av7 exP.length exP ∧ exP.length ≤ cv7 := F23.out.ts (Av7, cv7, exP) (List.mem_cons_of_mem _ (List.mem_cons_of_mem _ (List.mem_cons_of_mem _ (List.mem_cons_of_mem _ (List.mem_cons_self ..))))); have pt : Kd.C k39 w23 Av7 exT.length exT := Kd.C_take (m := 1) pb.1 hlp; have pt2 : exT.length ≤ cv7 := Nat.le_trans (show exT.length ≤ exP.length by decide) pb.2; (with_reducible refine (dialtoneref34_Same.calls kT As3 cAs3 exR Av7 cv7 exT true w23 pa.1 pa.2 pt pt2 HT.out).mono ?_); rintro e w24 ⟨rfl, hd⟩; have F24 := Aside0.mk (F23.out.step hd.below); obtain ⟨xF24a, xF24b, xF24c, xF24d⟩ := F24.out.cells; clear hd)
        | go_in)
      go_wp2_with (first
        | (go_at_call 28; (with_reducible refine (recovery_Valid.calls kV A1 c1 exS 4 true w24 F24.out.s1 F24.out.h1 HV.out).mono ?_); rintro e w25 ⟨rfl, hb⟩; have F25 := Aside0.mk (F24.out.step hb); obtain ⟨xF25a, xF25b, xF25c, xF25d⟩ := F25.out.cells; clear hb)
        | (go_at_call 28; (refine (recovery_Valid.calls kW none 0 [] 1 false w25 (Kd.C_nil _ _) (Nat.le_refl _) HW.out).mono ?_); rintro e w26 ⟨rfl, hb⟩; have F26 := Aside0.mk (F25.out.step hb); obtain ⟨xF26a, xF26b, xF26c, xF26d⟩ := F26.out.cells; clear hb)
        | (go_at_call 30; (with_reducible refine (recovery_Ready.calls A2 c2 exL true w26 F26.out.l F26.out.h2 HR.out).mono ?_); rintro e w27 ⟨rfl, hb⟩; have F27 := Aside0.mk (F26.out.step hb); obtain ⟨xF27a, xF27b, xF27c, xF27d⟩ := F27.out.cells; clear hb)
        | ((with_reducible refine gate_dst (N := 232) rfl ?_); (try (refine gate_guard (by rfl) ?_; dsimp only)); refine Kd.R_lit k60 _ 60 ?hg (N := 232) ?hd (xs := ([⟨-1, 0, false⟩] : List S60)) (inner := [.int .i64 (-1), .int .i64 0, .bool false]) (ok := fun _ => True) (okp := fun _ => True) ?hr ?hp (fun _ hk => hk) trivial (Below.refl _ _) (Nat.le_refl _) (by decide) ?_; (case hd => rfl); (case hg => rfl); (case hr => first | (go_simp; done) | (go_simp; rfl)); (case hp => exact (Reps.c3 (show Kd.M k60 _ _ _ (⟨-1, 0, false⟩ : S60) [.int .i64 (-1), .int .i64 0, .bool false] from (k60_mkM _ _ _ (⟨-1, 0, false⟩ : S60))) (Reps.none _ _))); intro vL w28 ho hb _ _; obtain ⟨AL, cL, rfl⟩ := Kd.R_slice ho; have HAL := Aside0.mk (Kd.R_reads' ho).2; have F28 := Aside0.mk (F27.out.step hb); obtain ⟨xF28a, xF28b, xF28c, xF28d⟩ := F28.out.cells; clear ho hb)
        | (go_at_call 30; (refine (recovery_Ready.calls AL cL [⟨-1, 0, false⟩] false w28 HAL.out.2 HAL.out.1 HR2.out).mono ?_); rintro e w29 ⟨rfl, hb⟩; have F29 := Aside0.mk (F28.out.step hb); obtain ⟨xF29a, xF29b, xF29c, xF29d⟩ := F29.out.cells; clear hb)
        | go_in)
      go_ret
      exact ⟨rfl, F29.out.below⟩

end Go.Proofs.Ytcldldmedphcfaa.C
