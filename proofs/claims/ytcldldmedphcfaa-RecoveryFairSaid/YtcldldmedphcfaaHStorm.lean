import Derived.Test.YtcldldmedphcfaaHStormS
import Derived.Test.YtcldldmedphcfaaHSafe
import Derived.Deep.RegionLaw
import Derived.WalkMore
/- The contract of recovery.Storm. Condition: fewer than 1000 attempts. -/
namespace Go.Proofs.Ytcldldmedphcfaa.C
open Go.RowKit Go.Proofs.YtcldldmedphcfaaW.PrintWords Go.Proofs.YtcldldmedphcfaaW.PrintLast Go.Proofs.YtcldldmedphcfaaW.PrintMore
set_option linter.unusedVariables false
set_option linter.unusedSimpArgs false
theorem blk_row {w w1 : World} {base : Nat} {ok : Nat → Prop} {v : Value} {zs : List Int} (hv : Kd.R kI 3 w base ok v zs) (hg : w.grownBy w1 v.ownBlock) {g : Nat} {cells : Array Value} {q : TypeId} (hb : w.heap[g]? = some (.cells cells q (0, 0))) (hq : q ≠ 3) : w1.heap[g]? = some (.cells cells q (0, 0)) :=
  (hg.block g (blk_lt hb) (fun e => by
    obtain ⟨_, cs, hc⟩ := RI_lt hv g e.symm
    rw [hb] at hc
    injection hc with hc
    injection hc with _ hc
    exact hq hc)).trans hb
/-- What of the world holds in Storm's loops. -/
structure SW (w wr : World) (mbW mbI n1 n2 : Nat) (A0_0 : Option Addr) (c0_0 : Nat) (S : List S67) (s : Int) (Ao : Option Addr) (co : Nat) (o : List S60) (av : Nat → Prop) (P : List (Int × Int)) (I : Int → Option Int) : Prop where
  below : Below w.heap.size w wr
  blk : wr.heap[w.heap.size]? = some (.cells #[.slice A0_0 S.length c0_0, .int .i64 s] 26 (0, 0))
  ord : Kd.R k60 60 wr w.heap.size (fun _ => True) (.slice Ao o.length co) o
  gi : GI wr w.heap.size mbW n1 av (atT P)
  mi : MI wr mbI n2 I
  ne : mbW ≠ mbI
  leW : w.heap.size ≤ mbW
  leI : w.heap.size ≤ mbI
section
variable {w wr W : World} {mbW mbI n1 n2 : Nat} {A0_0 : Option Addr} {c0_0 : Nat} {S : List S67} {s : Int} {Ao : Option Addr} {co : Nat} {o : List S60} {av : Nat → Prop} {P : List (Int × Int)} {I : Int → Option Int}
theorem SW.step (h : SW w wr mbW mbI n1 n2 A0_0 c0_0 S s Ao co o av P I) (hb : Below wr.heap.size wr W) : SW w W mbW mbI n1 n2 A0_0 c0_0 S s Ao co o av P I :=
  ⟨below_step h.below hb, blk_below h.blk hb, Kd.R_below h.ord hb, GI_below h.gi hb, MI_below h.mi hb, h.ne, h.leW, h.leI⟩
theorem SW.nc (h : SW w wr mbW mbI n1 n2 A0_0 c0_0 S s Ao co o av P I) : ¬ ∃ cells, wr.heap[mbW]? = some (Obj.cells cells 3 (0, 0)) := by
  rintro ⟨cells, hc⟩
  obtain ⟨es, clock, hm⟩ := GI_map h.gi
  rw [hm] at hc
  cases hc
/-- A block of cells that is not of the type 3 stays while a row of whole numbers and then the map of slices are written. -/
theorem SW.blk_put (h : SW w wr mbW mbI n1 n2 A0_0 c0_0 S s Ao co o av P I) {v : Value} {zs : List Int} (hv : Kd.R kI 3 wr w.heap.size (fun _ => True) v zs) {w1 : World} (hg : wr.grownBy w1 v.ownBlock) (hg2 : w1.grownBy W (some mbW)) {g : Nat} {cells : Array Value} {q : TypeId} (hq : q ≠ 3) (hb : wr.heap[g]? = some (.cells cells q (0, 0))) : W.heap[g]? = some (.cells cells q (0, 0)) := by
  have e1 : w1.heap[g]? = some (.cells cells q (0, 0)) := (hg.block g (blk_lt hb) (fun e => by
    obtain ⟨_, cs, hc⟩ := RI_lt hv g e.symm
    rw [hb] at hc
    injection hc with hc
    injection hc with _ hc
    exact hq hc)).trans hb
  refine (hg2.block g (blk_lt e1) (fun e => ?_)).trans e1
  injection e with e
  obtain ⟨es, clock, hm⟩ := GI_map h.gi
  rw [e, hm] at hb
  cases hb
theorem SW.put (h : SW w wr mbW mbI n1 n2 A0_0 c0_0 S s Ao co o av P I) {v : Value} {zs : List Int} (hv : Kd.R kI 3 wr w.heap.size (fun _ => True) v zs) {w1 : World} (hg : wr.grownBy w1 v.ownBlock) (hg2 : w1.grownBy W (some mbW)) {P' : List (Int × Int)} (hG : GI W w.heap.size mbW (n1 + 1) av (atT P')) :
    SW w W mbW mbI (n1 + 1) n2 A0_0 c0_0 S s Ao co o av P' I := by
  have hbase := Kd.R_base hv
  have hR : Kd.R k60 60 W w.heap.size (fun _ => True) (.slice Ao o.length co) o := by
    refine Kd.R_mono (Kd.R_step (Kd.R_bound h.ord) (fun k hk _ => ?_)) (fun k hk => hk.1)
    obtain ⟨_, _, _, q, hq, cells, hc⟩ := hk
    rw [hc]
    refine h.blk_put hv hg hg2 (fun e => ?_) hc
    subst e
    revert hq
    decide
  have hne : ∀ g, v.ownBlock = some g → ∀ (b : Nat) es clock, wr.heap[b]? = some (.map es clock) → b ≠ g := fun g hgv b es clock hm e => by
    obtain ⟨_, cs, hc⟩ := RI_lt hv g hgv
    rw [← e, hm] at hc
    cases hc
  obtain ⟨es, clock, hm⟩ := MI_map h.mi
  have hm1 : w1.heap[mbI]? = wr.heap[mbI]? := hg.block mbI (blk_lt hm) (fun e => hne mbI e.symm mbI es clock hm rfl)
  have hm2 : W.heap[mbI]? = wr.heap[mbI]? := (hg2.block mbI (by have := blk_lt hm; have := hg.size; omega) (fun e => h.ne (Option.some.inj e).symm)).trans hm1
  exact ⟨(h.below.grown hg h.below.size (fun k e => hbase k e)).grown hg2 (Nat.le_trans h.below.size hg.size) (fun k e => by cases e; exact h.leW), h.blk_put hv hg hg2 (by decide) h.blk, hR, hG, MI_block h.mi hm2, h.ne, h.leW, h.leI⟩
theorem cells_but {mb : Nat} {es : Array MapEntry} {clock : Nat} (hm : wr.heap[mb]? = some (.map es clock)) (hg : wr.grownBy W (some mb)) : ∀ (k : Nat) (cells : Array Value) (q : TypeId), wr.heap[k]? = some (Obj.cells cells q (0, 0)) → W.heap[k]? = wr.heap[k]? := fun k cells q hk => hg.block k (blk_lt hk) (fun e => by
  injection e with e
  rw [e, hm] at hk
  cases hk)
theorem SW.struck (h : SW w wr mbW mbI n1 n2 A0_0 c0_0 S s Ao co o av P I) (hg : wr.grownBy W (some mbW)) {P' : List (Int × Int)} (hG : GI W w.heap.size mbW n1 av (atT P')) : SW w W mbW mbI n1 n2 A0_0 c0_0 S s Ao co o av P' I := by
  obtain ⟨es, clock, hm⟩ := GI_map h.gi
  have hc := cells_but hm hg
  obtain ⟨es2, clock2, hm2⟩ := MI_map h.mi
  exact ⟨h.below.grown hg h.below.size (fun k e => by cases e; exact h.leW), (hc _ _ _ h.blk).trans h.blk, R_cells h.ord hc, hG, MI_block h.mi (hg.block mbI (blk_lt hm2) (fun e => h.ne (Option.some.inj e).symm)), h.ne, h.leW, h.leI⟩
theorem SW.let_in (h : SW w wr mbW mbI n1 n2 A0_0 c0_0 S s Ao co o av P I) (hg : wr.grownBy W (some mbI)) {I' : Int → Option Int} (hI : MI W mbI (n2 + 1) I') : SW w W mbW mbI n1 (n2 + 1) A0_0 c0_0 S s Ao co o av P I' := by
  obtain ⟨es, clock, hm⟩ := MI_map h.mi
  have hc := cells_but hm hg
  exact ⟨h.below.grown hg h.below.size (fun k e => by cases e; exact h.leI), (hc _ _ _ h.blk).trans h.blk, R_cells h.ord hc, GI_step h.gi (hg.block mbW (GI_lt h.gi) (fun e => h.ne (Option.some.inj e))) (fun k cells _ hk => hc k cells 3 hk), hI, h.ne, h.leW, h.leI⟩
theorem SW.avoid (h : SW w wr mbW mbI n1 n2 A0_0 c0_0 S s Ao co o av P I) {av' : Nat → Prop} (ha : ∀ g, g < wr.heap.size → av g → av' g) : SW w wr mbW mbI n1 n2 A0_0 c0_0 S s Ao co o av' P I :=
  ⟨h.below, h.blk, h.ord, GI_av h.gi ha, h.mi, h.ne, h.leW, h.leI⟩
end
theorem tries_put {w wr w1 W : World} {mbW : Nat} {base : Nat} {v16 v : Value} {tr : List Int} {es : Array MapEntry} {clock : Nat} (ht : Kd.R kI 3 wr base (fun _ => True) v16 tr) (hav : ∀ g, v.ownBlock = some g → v16.ownBlock ≠ some g) (hg : wr.grownBy w1 v.ownBlock) (hg2 : w1.grownBy W (some mbW)) (hm : wr.heap[mbW]? = some (.map es clock)) : Kd.R kI 3 W base (fun _ => True) v16 tr := by
  refine RI_step ht (fun g hg16 => ?_) (fun _ _ => trivial)
  obtain ⟨hlt, cells, hc⟩ := RI_lt ht g hg16
  have e1 := hg.block g hlt (fun e => hav g e.symm hg16)
  refine (hg2.block g (Nat.lt_of_lt_of_le hlt hg.size) (fun e => ?_)).trans e1
  injection e with e
  rw [e, hm] at hc
  cases hc
theorem storm_limbs {w wr W w6 : World} {mb n : Nat} {I : Int → Option Int} {v u : Value} {o : List S60} {out : List S39} (hO : Kd.R k60 60 wr w.heap.size (fun _ => True) v o) (hM : MI wr mb n I) (hU : Kd.R k39 39 wr w.heap.size (fun _ => True) u out) (bb : Below wr.heap.size wr W) (hg : W.grownBy w6 u.ownBlock) : Kd.R k60 60 w6 w.heap.size (fun _ => True) v o ∧ MI w6 mb n I := by
  have hty := Kd.R_typed (Kd.R_below hU bb)
  refine ⟨Kd.R_over' (Kd.R_below hO bb) hty (by decide) hg, MI_kept (MI_below hM bb) hg (fun e => ?_)⟩
  obtain ⟨cells, hc⟩ := hty mb e.symm
  obtain ⟨es, clock, hm⟩ := MI_map (MI_below hM bb)
  rw [hm] at hc
  cases hc
theorem MI_look_ok {w : World} {b n : Nat} {g : Int → Option Int} (h : MI w b n g) (k : Int) (hk : (Lit.int .i64 k).wf = true) : (Instr.lookup 72 (.map (some b)) (.int .i64 k) true).run Try.prog w = .ok (.tuple #[.int .i64 ((g k).getD 0), .bool (g k).isSome]) w := by
  obtain ⟨D, h1, h2, h3⟩ := h
  obtain ⟨v, ps, hrun, hv⟩ := h1.look_ok law3 Try.underlying72 (zero3 w) (plainElem_int Try.underlying3 (by decide)) (keyI k hk)
  obtain ⟨c, rfl, hc, _⟩ := plainElem_int_inv Try.underlying3 hv
  have e : ((g k).getD 0) = c := by
    have h4 := (h3 k).symm.trans (congrArg Prod.fst hc)
    clear hrun hv hc h1 h2 h3
    generalize (g k).getD 0 = x at h4 ⊢
    injection h4 with h4
    injection h4
  rw [e, ← h2 k]
  exact hrun
set_option maxHeartbeats 16000000 in
set_option maxRecDepth 100000 in
theorem recovery_Storm.calls (A0_0 : Option Addr) (c0_0 : Nat) (l0_0 : List S67) (a0_1 : Int) (A1 : Option Addr) (c1 : Nat) (l1 : List S60) (a2 : Int) (r1 : List S39) (r2 : Int) (r3 : Int) (w : World) (hr0_0 : Kd.C k67 w A0_0 l0_0.length l0_0) (hc0_0 : l0_0.length ≤ c0_0) (hr1 : Kd.C k60 w A1 l1.length l1) (hc1 : l1.length ≤ c1) (h : recovery_Storm.f l0_0 a0_1 l1 a2 = some (r1, r2, r3)) :
    Calls Try.prog 17 #[.agg #[.slice A0_0 l0_0.length c0_0, .int .i64 a0_1], .slice A1 l1.length c1, .int .i64 a2] w fun e w' => ∃ v : Value, e = .returned (.tuple #[v, .int .i64 r2, .int .i64 r3]) ∧ Kd.R k39 39 w' w.heap.size (fun _ => True) v r1 ∧ Below w.heap.size w w' := by
  unfold recovery_Storm.f at h
  by_cases hlen : l1.length < 1000
  · rw [if_pos hlen] at h
    obtain ⟨kv, hkv⟩ := Ev.rounds (valid_ok l0_0 a0_1)
    have HKV := Aside0.mk hkv
    have HC0 := Aside0.mk hr0_0
    have HC1 := Aside0.mk hr1
    have HL0 := Aside0.mk hc0_0
    have HL1 := Aside0.mk hc1
    have HRE : Aside0 (recovery_Ready.f l1 = some (readyB l1)) := ⟨by unfold recovery_Ready.f; rw [if_pos hlen]⟩
    have HOD : Aside0 (recovery_ordered.f l1 = some (sortAtts l1)) := ⟨by unfold recovery_ordered.f; rw [if_pos hlen]⟩
    have hmm := @run_makeMap Try.prog
    obtain ⟨w0, hw0⟩ : ∃ w0, w.alloc (.cells #[.slice A0_0 l0_0.length c0_0, .int .i64 a0_1] 26) = w0 := ⟨_, rfl⟩
    have hB0 : Below w.heap.size w w0 := by rw [← hw0]; exact below_alloc (Below.refl _ _) _
    have hblk0 : w0.heap[w.heap.size]? = some (.cells #[.slice A0_0 l0_0.length c0_0, .int .i64 a0_1] 26 (0, 0)) := by rw [← hw0]; exact heap_alloc_new _ _
    have c00 : w0.cell? ⟨w.heap.size, 0, none⟩ = some (.slice A0_0 l0_0.length c0_0) := (blk_cell hblk0 0).trans rfl
    have c01 : w0.cell? ⟨w.heap.size, 1, none⟩ = some (.int .i64 a0_1) := (blk_cell hblk0 1).trans rfl
    have HB0 := Aside0.mk hB0
    have HK0 := Aside0.mk hblk0
    clear hkv hr0_0 hr1 hc0_0 hc1 hlen hB0 hblk0
    by_cases hok : validB l0_0 a0_1 = true ∧ readyB l1 = true ∧ (1 ≤ a2 ∧ a2 ≤ 100)
    · rw [if_pos hok] at h
      obtain ⟨hv, hrd, hpz⟩ := hok
      obtain ⟨⟨I9, fell⟩, hsuf, hsr⟩ := Option.map_eq_some_iff.1 h
      simp only [Prod.mk.injEq] at hsr
      obtain ⟨hs1, rfl, rfl⟩ := hsr
      have HRES := Aside0.mk hs1
      have HV := Aside0.mk hv
      have HRD := Aside0.mk hrd
      have HGO := Aside0.mk hsuf
      have HPZ := Aside0.mk hpz
      rw [hv] at HKV
      rw [hrd] at HRE
      have hwi := within_true a2 1 100 hpz
      have HL40 := Aside0.mk (ready_len hrd)
      clear h hsuf hv hrd hpz hs1
      go_enter Try.func17, Try.ntmps17
      go_wp2
      go_step3
      go_wp2_with (first
        | (go_at_call 28; (refine (recovery_Valid.calls kv A0_0 c0_0 l0_0 a0_1 true w0 (Kd.C_below HC0.out HB0.out) HL0.out HKV.out).mono ?_); rintro e w1 ⟨rfl, hb1⟩; have HK1 := Aside0.mk (blk_below HK0.out hb1); have HB1 := Aside0.mk (below_step HB0.out hb1); clear hb1)
        | (go_at_call 30; (refine (recovery_Ready.calls A1 c1 l1 true w1 (Kd.C_below HC1.out HB1.out) HL1.out HRE.out).mono ?_); rintro e w2 ⟨rfl, hb2⟩; have HK2 := Aside0.mk (blk_below HK1.out hb2); have HB2 := Aside0.mk (below_step HB1.out hb2); clear hb2)
        | (go_at_call 43; (with_reducible refine (recovery_isWithin.calls _ _ _ _ _ hwi).mono ?_); rintro e w3 ⟨rfl, hd⟩; clear hwi)
        | (go_at_call 41; (refine (recovery_ordered.calls A1 c1 l1 (sortAtts l1) _ (Kd.C_below HC1.out (below_step HB2.out hd.below)) HL1.out HOD.out).mono ?_); rintro e w4 ⟨v4, rfl, ho4, hb4⟩; have HK4 := Aside0.mk (blk_below (blk_below HK2.out hd.below) hb4); obtain ⟨Ao, co, rfl⟩ := Kd.R_slice ho4; have HB4 := Aside0.mk (below_step (below_step HB2.out hd.below) hb4); have HO4 := Aside0.mk (Kd.R_lower ho4 (below_step HB2.out hd.below).size); clear ho4 hb4 hd)
        | go_in)
      have HMAP := Aside0.mk (show w4.heap.size + 1 = (w4.alloc (.map #[] 0)).heap.size by rw [World.size_alloc])
      go_loopw [44] (fun v wr => ∃ (i n1 : Nat), v = .int .i64 i ∧ Aside0 (i ≤ (sortAtts l1).length ∧ n1 ≤ i) ∧ Aside0 (SW w wr w4.heap.size (w4.heap.size + 1) n1 0 A0_0 c0_0 l0_0 a0_1 Ao co (sortAtts l1) (fun _ => True) (pendFrom ((sortAtts l1).take i) 0) (fun _ => none))) (fun v _ => (sortAtts l1).length - (intOf v).toNat)
      case atStart =>
        have hb5 : Below w4.heap.size w4 ((w4.alloc (.map #[] 0)).alloc (.map #[] 0)) := below_alloc (below_alloc (Below.refl _ _) _) _
        refine ⟨0, 0, rfl, ⟨Nat.zero_le _, Nat.le_refl _⟩, ⟨below_step HB4.out hb5, ?_, Kd.R_below HO4.out hb5, GI_below (GI_made w4 _ _) (below_alloc (Below.refl _ _) _), ?_, Nat.ne_of_lt (Nat.lt_succ_self _), HB4.out.size, Nat.le_succ_of_le HB4.out.size⟩⟩
        · exact blk_below HK4.out hb5
        · rw [HMAP.out]
          exact MI_made _
      case round =>
        obtain ⟨i, n1, rfl, HI, HSW⟩ := hrel
        have hi := HI.out
        have hl40 := HL40.out
        by_cases hlt : i < (sortAtts l1).length
        · obtain ⟨ad, hA, hx0, hx1, hx2⟩ := at_T60 (Kd.R_reads' HSW.out.ord).2.2 (i : Int) (by omega) (by omega)
          subst hA
          rw [Int.toNat_natCast] at hx0 hx1 hx2
          have hc3 : decide ((i : Int) < (sortAtts l1).length) = true := decide_eq_true (by omega)
          have HPS := Aside0.mk (pend_step (sortAtts l1) i hlt)
          by_cases hu : (rd_T60 (sortAtts l1) i).f2 = true
          · have HP2 : Aside0 (pendFrom ((sortAtts l1).take (i + 1)) 0 = pendFrom ((sortAtts l1).take i) 0) := ⟨by rw [HPS.out, if_pos hu, List.append_nil]⟩
            rw [hu] at hx2
            clear hu
            go_wp2
            go_roundw
            case rel => exact ⟨i + 1, n1, by go_num, ⟨by omega⟩, ⟨by rw [HP2.out]; exact HSW.out.step (below_alloc (Below.refl _ _) _)⟩⟩
            case measure => simp [intOf]; omega
          · have HP2 : Aside0 (pendFrom ((sortAtts l1).take (i + 1)) 0 = pendFrom ((sortAtts l1).take i) 0 ++ [((rd_T60 (sortAtts l1) i).f1, (i : Int))]) := ⟨by rw [HPS.out, if_neg hu]⟩
            rw [Bool.eq_false_iff.mpr hu] at hx2
            have hat := ready_at HRD.out i hlt
            have hwt := wfI (rd_T60 (sortAtts l1) i).f1 (by omega)
            clear hu
            obtain ⟨wa, hwa⟩ : ∃ wa, wr.alloc (.cells #[.int .i64 (rd_T60 (sortAtts l1) i).f0, .int .i64 (rd_T60 (sortAtts l1) i).f1, .bool false] 60) = wa := ⟨_, rfl⟩
            have hba : Below wr.heap.size wr wa := by rw [← hwa]; exact below_alloc (Below.refl _ _) _
            have hbox : wa.heap[wr.heap.size]? = some (.cells #[.int .i64 (rd_T60 (sortAtts l1) i).f0, .int .i64 (rd_T60 (sortAtts l1) i).f1, .bool false] 60 (0, 0)) := by rw [← hwa]; exact heap_alloc_new _ _
            have HBA := Aside0.mk hba
            have HBOX := Aside0.mk hbox
            have HWA := Aside0.mk hwa
            clear hba hbox hwa
            go_upto_region 10 with go_in
            (try simp only [Act.put, List.setIfInBounds_toArray, List.set_cons_zero, List.set_cons_succ])
            rw [HWA.out]
            have hsa := HSW.out.step HBA.out
            have hsd := hsa.step (below_drew1 (Below.refl _ _))
            have q1 : wa.drew.cell? ⟨wr.heap.size, 1, none⟩ = some (.int .i64 (rd_T60 (sortAtts l1) i).f1) := (blk_cell (w := wa.drew) HBOX.out 1).trans rfl
            have q1' : ∀ o, (wa.drew.alloc o).cell? ⟨wr.heap.size, 1, none⟩ = some (.int .i64 (rd_T60 (sortAtts l1) i).f1) := fun o => (blk_cell (blk_alloc (w := wa.drew) HBOX.out o) 1).trans rfl
            obtain ⟨v, hlook, hrow, hav, hback⟩ := GI_look hsd.gi (by omega) hsd.nc (rd_T60 (sortAtts l1) i).f1 hwt
            have hl1 := hlook wa.drew rfl
            have hl2 : ∀ o, (Instr.lookup 77 (.map (some w4.heap.size)) (.int .i64 (rd_T60 (sortAtts l1) i).f1) false).run Try.prog (wa.drew.alloc o) = .ok v (wa.drew.alloc o) := fun o => hlook _ (Below.heap_alloc _ _ _ (GI_lt hsd.gi))
            have hl3 : ∀ o, (Instr.lookup 77 (.map (some w4.heap.size)) (.int .i64 (rd_T60 (sortAtts l1) i).f1) false).run Try.prog (wa.alloc o).drew = .ok v (wa.alloc o).drew := fun o => hl2 o
            have q1'' : ∀ o, (wa.alloc o).drew.cell? ⟨wr.heap.size, 1, none⟩ = some (.int .i64 (rd_T60 (sortAtts l1) i).f1) := q1'
            have HSD := Aside0.mk hsd
            have HROW := Aside0.mk hrow
            have HBACK := Aside0.mk hback
            have hxl := Nat.le_trans (atT_len (pendFrom ((sortAtts l1).take i) 0) (rd_T60 (sortAtts l1) i).f1) (Nat.le_trans (pendFrom_len _ 0).1 (List.length_take_le i (sortAtts l1)))
            have HXL := Aside0.mk hxl
            clear hsa hsd hlook hrow hback hav hxl
            go_region_law (refine Kd.R_append_step kI (w0 := w) (W := wa.drew) w.heap.size (by rfl) (.tmp 58) (.tmp 60) 54 3 (.int .i64 0) 8 rfl Try.underlying54 info3 rfl (by decide) (by omega) v (atT (pendFrom ((sortAtts l1).take i) 0) (rd_T60 (sortAtts l1) i).f1) (i : Int) [.int .i64 i] (fun _ => True) (fun _ => False) (by simp [Act.eval, Act.put]) (by simp [Act.eval, Act.put]) rfl (fun _ hk => hk.elim) (fun _ _ => trivial) HROW.out HSD.out.below HSD.out.below.size (by have := HXL.out; omega) ?_; intro v1 w5 ho5 hb5 hg5 hat5; have q5 : w5.cell? ⟨wr.heap.size, 1, none⟩ = some (.int .i64 (rd_T60 (sortAtts l1) i).f1) := (blk_cell (blk_row (w := wa.drew) HROW.out hg5 HBOX.out (by decide)) 1).trans rfl; obtain ⟨w6, hmu, hgi6, hg6⟩ := HBACK.out w5 v1 _ hg5 ho5 (by simp) hat5 (fun _ _ => trivial); have HSW6 := Aside0.mk (HSD.out.put HROW.out hg5 hg6 (P' := pendFrom ((sortAtts l1).take (i + 1)) 0) (by rw [HP2.out, atT_append]; exact hgi6)); clear ho5 hb5 hg5 hat5 hgi6 hg6)
            all_goals
              go_wp2
              go_roundw
              case rel => exact ⟨i + 1, n1 + 1, by go_num, ⟨by omega⟩, HSW6⟩
              case measure => simp [intOf]; omega
        · have ei : i = (sortAtts l1).length := by omega
          have hc3 : decide ((i : Int) < (sortAtts l1).length) = false := decide_eq_false (by omega)
          have HSB := HSW
          rw [ei, List.take_length] at HSB
          clear HSW
          subst ei
          go_wp2
          go_step3
          go_upto_block 2 with go_in
          (try simp only [Act.put, List.setIfInBounds_toArray, List.set_cons_zero, List.set_cons_succ])
          go_cut [14] (fun v14 wc => ∃ (n1 n2 : Nat) (P : List (Int × Int)), v14 = .int .i64 fell ∧ Aside0 (SW w wc w4.heap.size (w4.heap.size + 1) n1 n2 A0_0 c0_0 l0_0 a0_1 Ao co (sortAtts l1) (fun _ => True) P I9))
          case first =>
            go_wp2
            go_loopw [14, 15] (fun v14 v15 wr => ∃ (t kq n1 n2 : Nat) (P : List (Int × Int)) (I : Int → Option Int), v14 = .int .i64 (-1) ∧ v15 = .int .i64 t ∧ Aside0 (SN l0_0 a0_1 a2 I9 fell t kq P I) ∧ Aside0 (n1 ≤ 40 * (t + 1) ∧ n2 ≤ 40 * t) ∧ Aside0 (SW w wr w4.heap.size (w4.heap.size + 1) n1 n2 A0_0 c0_0 l0_0 a0_1 Ao co (sortAtts l1) (fun _ => True) P I)) (fun _ v _ => 10000 - (intOf v).toNat)
            case atStart =>
              have hl40 := HL40.out
              have hpf := pendFrom_len (sortAtts l1) 0
              exact ⟨0, 10000, n1, 0, _, _, rfl, rfl, ⟨⟨HGO.out, rfl, by omega, fun x hx => by have := hpf.2 x hx; omega⟩⟩, ⟨by have := HI.out; omega⟩, HSB⟩
            case round =>
              obtain ⟨t, kq, n1, n2, P, I, rfl, rfl, HSN, HNN, HSW⟩ := hrel
              obtain ⟨wB, hwB⟩ : ∃ x, x = wr := ⟨_, rfl⟩
              subst hwB
              have hkq : 1 ≤ kq := by
                cases kq with
                | zero => have := HSN.out.go_; cases this
                | succ k => omega
              have hsum := HSN.out.sum
              have hwt := wfI (t : Int) (by omega)
              obtain ⟨m, hlen, hm0⟩ := GI_len HSW.out.gi 3
              by_cases hP : P = []
              · have hme : m = 0 := hm0.2 ((atT_none P).1 hP)
                subst hP
                subst hme
                obtain ⟨e1, e2⟩ := HSN.out.done
                subst e1 e2
                clear hm0
                go_wp2
                go_meet
                case rel => exact ⟨n1, n2, _, rfl, HSW⟩
              · have hmp : 0 < m := by
                  have : m ≠ 0 := fun e => hP ((atT_none P).2 (hm0.1 e))
                  omega
                have HPN := Aside0.mk hP
                clear hm0 hP
                obtain ⟨v, hlook, hrow, _, _⟩ := GI_look HSW.out.gi (by have := HNN.out; omega) HSW.out.nc (t : Int) hwt
                obtain ⟨Av, cv, rfl⟩ := Kd.R_slice hrow
                have hl1 := hlook wB rfl
                have HROW := Aside0.mk hrow
                have HTL := Aside0.mk (Nat.le_trans (atT_len P t) HSN.out.len)
                obtain ⟨tr, htr⟩ : ∃ tr, sortInts (atT P t) = tr := ⟨_, rfl⟩
                have HTR := Aside0.mk htr
                clear hlook hrow htr
                go_upto_region 18 with (first
                  | (go_at_call 44; (refine (sorted44.calls Av cv (atT P t) wB (Kd.R_reads' HROW.out).2.2 (by have := HTL.out; omega)).mono ?_); rintro e w5 ⟨v16, rfl, ho16, hb5⟩; rw [HTR.out] at ho16; obtain ⟨A16, c16, rfl⟩ := Kd.R_slice ho16; have HO16 := Aside0.mk ho16; have HSW5 := Aside0.mk ((HSW.out.avoid (av' := fun g => g < wB.heap.size) (fun g hg _ => hg)).step hb5); obtain ⟨w6, hdel, hgi6, hg6⟩ := GI_del HSW5.out.gi (fun g e => e ▸ HSW5.out.nc) t hwt 0; have HG6 := Aside0.mk hg6; have HB5 := Aside0.mk hb5; have HSW6 := Aside0.mk (HSW5.out.struck hg6 (P' := P.filter (fun x => !decide (x.1 = (t : Int)))) (by rw [atT_strike]; exact hgi6)); clear ho16 hb5 hgi6 hg6)
                  | go_in)
                (try simp only [Act.put, List.setIfInBounds_toArray, List.set_cons_zero, List.set_cons_succ])
                obtain ⟨es5, clock5, hm5⟩ := GI_map HSW5.out.gi
                have HT6 := Aside0.mk (show Kd.R kI 3 w6 wB.heap.size (fun _ => True) (.slice A16 tr.length c16) tr from RI_step HO16.out (fun g hg => by
                  obtain ⟨_, cells, hc⟩ := RI_lt HO16.out g hg
                  exact cells_but hm5 HG6.out g cells 3 hc) (fun _ _ => trivial))
                have HSW7 := Aside0.mk (HSW6.out.avoid (av' := fun g => (Value.slice A16 tr.length c16).ownBlock ≠ some g) (fun g _ hg e => absurd (Kd.R_base HT6.out g e) (by omega)))
                clear hm5 hdel hl1 hlen
                have c61 : w6.cell? ⟨w.heap.size, 1, none⟩ = some (.int .i64 a0_1) := (blk_cell HSW6.out.blk 1).trans rfl
                by_cases hf : a0_1 < (tr.length : Int)
                · have hfd : decide ((tr.length : Int) > a0_1) = true := decide_eq_true hf
                  obtain ⟨e1, e2⟩ := HSN.out.fall HPN.out (by rw [HTR.out]; exact hf)
                  subst e1 e2
                  clear hf
                  go_wp2
                  go_meet
                  case rel => exact ⟨n1, n2, _, rfl, ⟨HSW6.out.avoid (fun _ _ _ => trivial)⟩⟩
                · have hfd : decide ((tr.length : Int) > a0_1) = false := decide_eq_false hf
                  have HNF := Aside0.mk hf
                  clear hf
                  go_wp2
                  go_loopw [82] (fun v82 wc => ∃ (j m1 m2 : Nat), v82 = .int .i64 j ∧ Aside0 (j ≤ tr.length) ∧ Aside0 (m1 ≤ n1 + j ∧ m2 ≤ n2 + j) ∧ Aside0 (SW w wc w4.heap.size (w4.heap.size + 1) m1 m2 A0_0 c0_0 l0_0 a0_1 Ao co (sortAtts l1) (fun g => (Value.slice A16 tr.length c16).ownBlock ≠ some g) (Pj P t a2 tr (capL l0_0 t).toNat j) (Ij I t tr (capL l0_0 t).toNat j)) ∧ Aside0 (Kd.R kI 3 wc wB.heap.size (fun _ => True) (.slice A16 tr.length c16) tr)) (fun v _ => tr.length - (intOf v).toNat)
                  case atStart =>
                    exact ⟨0, n1, n2, rfl, ⟨Nat.zero_le _⟩, ⟨Nat.le_refl _, Nat.le_refl _⟩, ⟨by rw [Pj_zero, Ij_zero]; exact HSW7.out⟩, HT6⟩
                  case round =>
                    obtain ⟨j, m1, m2, rfl, HJ, HM, HSC, HT⟩ := hrel
                    have htl : tr.length ≤ 40 := by rw [← HTR.out, (sortInts_perm _).length_eq]; exact HTL.out
                    have hj0 := HJ.out
                    by_cases hj : j < tr.length
                    · obtain ⟨ad, hA, hcell⟩ := Kd.at_int (Kd.R_reads' HT.out).2.2 (j : Int) (by omega) (by omega)
                      subst hA
                      rw [Int.toNat_natCast] at hcell
                      have hc3 : decide ((j : Int) < tr.length) = true := decide_eq_true (by omega)
                      have c62 : wr.cell? ⟨w.heap.size, 0, none⟩ = some (.slice A0_0 l0_0.length c0_0) := (blk_cell HSC.out.blk 0).trans rfl
                      have c63 : wr.cell? ⟨w.heap.size, 1, none⟩ = some (.int .i64 a0_1) := (blk_cell HSC.out.blk 1).trans rfl
                      have hpz := HPZ.out
                      have hsw : ∀ W, Below wr.heap.size wr W → SW w W w4.heap.size (w4.heap.size + 1) m1 m2 A0_0 c0_0 l0_0 a0_1 Ao co (sortAtts l1) (fun g => (Value.slice (some ad) tr.length c16).ownBlock ≠ some g) (Pj P t a2 tr (capL l0_0 t).toNat j) (Ij I t tr (capL l0_0 t).toNat j) := fun W hW => HSC.out.step hW
                      have HSWS := Aside0.mk hsw
                      have hmem : 0 ≤ rd tr j ∧ rd tr j < 1000 := by
                        have h1 := HTR.out
                        obtain ⟨x, hx, e⟩ := sortInts_mem (P := P) (t := t) j (by rw [h1]; exact hj)
                        rw [h1] at e
                        rw [← e]
                        exact HSN.out.mem x hx
                      have hwk := wfI (rd tr j) (by omega)
                      have hcall : ∀ W, Below wr.heap.size wr W → Calls Try.prog 46 #[.agg #[.slice A0_0 l0_0.length c0_0, .int .i64 a0_1], .int .i64 t] W fun e w' => e = .returned (.int .i64 (capL l0_0 t)) ∧ Below W.heap.size W w' := fun W hW => recovery_capacity.calls A0_0 c0_0 l0_0 a0_1 t (capL l0_0 t) W (Kd.C_below HC0.out (below_step HSC.out.below hW)) HL0.out (cap_valid HV.out t (by omega) a0_1)
                      have HCALL := Aside0.mk (hcall wr (Below.refl _ _))
                      clear hsw hcall
                      by_cases hk : (j : Int) < capL l0_0 t
                      · have hkd : decide ((j : Int) < capL l0_0 t) = true := decide_eq_true hk
                        have HPJ := Aside0.mk (Pj_in P t a2 tr (capL l0_0 t).toNat j hj (by omega))
                        have HIJ := Aside0.mk (Ij_in I t tr (capL l0_0 t).toNat j hj (by omega))
                        clear hk
                        go_wp2_with (first
                          | (go_at_call 46; (refine HCALL.out.mono ?_); rintro e w7 ⟨rfl, hb7⟩; have HSC7 := Aside0.mk (HSWS.out w7 hb7); have HT7 := Aside0.mk (RI_step (ok' := fun _ => True) HT.out (fun g hg => hb7.block g (RI_lt HT.out g hg).1) (fun _ _ => trivial)); clear hb7)
                          | (at_mapUpdate; refine wpList_MI_put _ rfl _ _ _ rfl (w4.heap.size + 1) m2 _ rfl HSC7.out.mi (by have := HNN.out; have := HM.out; omega) (rd tr j) (t : Int) hwk hwt rfl rfl ?_; intro w8 hmi8 hg8; have HSC8 := Aside0.mk (HSC7.out.let_in hg8 hmi8); obtain ⟨es7, clock7, hm7⟩ := MI_map HSC7.out.mi; have HT8 := Aside0.mk (RI_step (ok' := fun _ => True) HT7.out (fun g hg => (by obtain ⟨_, cells, hc⟩ := RI_lt HT7.out g hg; exact cells_but hm7 hg8 g cells 3 hc)) (fun _ _ => trivial)); clear hmi8 hg8 hm7)
                          | go_in)
                        go_roundw
                        case rel => exact ⟨j + 1, m1, m2 + 1, by go_num, ⟨hj⟩, ⟨by have := HM.out; omega⟩, ⟨by rw [HPJ.out, HIJ.out]; exact HSC8.out⟩, HT8⟩
                        case measure => simp [intOf]; omega
                      · have hkd : decide ((j : Int) < capL l0_0 t) = false := decide_eq_false hk
                        have HPJ := Aside0.mk (Pj_out P t a2 tr (capL l0_0 t).toNat j hj (by omega))
                        have HIJ := Aside0.mk (Ij_out I t tr (capL l0_0 t).toNat j hj (by omega))
                        clear hk
                        have hwq := wfI ((t : Int) + a2) (by omega)
                        have HPL := Aside0.mk (Nat.le_trans (atT_len (Pj P t a2 tr (capL l0_0 t).toNat j) ((t : Int) + a2)) (by have h := Pj_len P t a2 (capL l0_0 t).toNat j; rw [HTR.out] at h; exact Nat.le_trans h HSN.out.len))
                        have ht4 : (t : Int) ≤ 10000 := by omega
                        go_wp2_with (first
                          | (go_at_call 46; (refine HCALL.out.mono ?_); rintro e w7 ⟨rfl, hb7⟩; have HSC7 := Aside0.mk (HSWS.out w7 hb7); have HT7 := Aside0.mk (RI_step (ok' := fun _ => True) HT.out (fun g hg => hb7.block g (RI_lt HT.out g hg).1) (fun _ _ => trivial)); obtain ⟨v, hlook, hrow, hav, hback⟩ := GI_look HSC7.out.gi (by have := HNN.out; have := HM.out; omega) HSC7.out.nc ((t : Int) + a2) hwq; have hl2 := hlook w7 rfl; have HROW7 := Aside0.mk hrow; have HAV7 := Aside0.mk hav; have HBACK := Aside0.mk hback; clear hb7 hlook hrow hav hback)
                          | ((with_reducible refine gate_builtin (b := .append) (xs := #[.tmp 103, .tmp 105]) rfl ?_); at_builtin; refine Kd.R_append kI (w0 := w) w.heap.size rfl (.tmp 103) (.tmp 105) 54 3 (.int .i64 0) 8 rfl Try.underlying54 info3 rfl (by decide) (by omega) v (atT (Pj P t a2 tr (capL l0_0 t).toNat j) ((t : Int) + a2)) (rd tr j) [.int .i64 (rd tr j)] (fun _ => True) (fun _ => False) rfl ?hx rfl (fun _ h => h.elim) (fun _ _ => trivial) ?aO ?aB ?aS ?aL ?_; (case hx => (first | rfl | (go_simp; done) | (simp; done))); (case aO => exact HROW7.out); (case aB => exact HSC7.out.below); (case aS => exact HSC7.out.below.size); (case aL => have := HPL.out; omega); intro v1 w8 ho8 hb8 hg8 hat8; obtain ⟨w9, hmu, hgi9, hg9⟩ := HBACK.out w8 v1 _ hg8 ho8 (by simp) hat8 (fun g hg => (by rcases hat8 with hat8 | ⟨g', hg', hle⟩; exact HAV7.out g (by rw [← hat8]; exact hg); exact fun e => (by have h1 := (RI_lt HT7.out g e).1; rw [hg] at hg'; injection hg' with hg'; omega))); have HSC9 := Aside0.mk (HSC7.out.put HROW7.out hg8 hg9 (P' := Pj P t a2 tr (capL l0_0 t).toNat (j + 1)) (by rw [HPJ.out, atT_append]; exact hgi9)); obtain ⟨es7, clock7, hm7⟩ := GI_map HSC7.out.gi; have HT9 := Aside0.mk (tries_put (w := w7) HT7.out (fun g hg => HAV7.out g hg) hg8 hg9 hm7); clear ho8 hb8 hg8 hat8 hgi9 hg9 hm7)
                          | go_in)
                        go_roundw
                        case rel => exact ⟨j + 1, m1 + 1, m2, by go_num, ⟨hj⟩, ⟨by have := HM.out; omega⟩, ⟨by rw [HIJ.out]; exact HSC9.out⟩, HT9⟩
                        case measure => simp [intOf]; omega
                    · have ej : j = tr.length := by omega
                      have hc3 : decide ((j : Int) < tr.length) = false := decide_eq_false (by omega)
                      have HSNX := Aside0.mk (SN.next (by rw [show kq - 1 + 1 = kq by omega]; exact HSN.out) HPN.out (by rw [HTR.out]; have := HNF.out; omega))
                      rw [HTR.out] at HSNX
                      subst ej
                      have ht4 : (t : Int) ≤ 10000 := by omega
                      go_wp2
                      go_roundw
                      case rel => exact ⟨t + 1, kq - 1, m1, m2, _, _, rfl, by go_num, HSNX, ⟨by have := HM.out; have := HNN.out; omega⟩, ⟨HSC.out.avoid (fun _ _ _ => trivial)⟩⟩
                      case measure => simp [intOf]; omega
          case rest =>
            obtain ⟨n1c, n2c, Pc, rfl, HSC⟩ := hcut
            have hso := HL40.out
            go_upto_block 6 with go_in
            go_wp2
            go_loopw [19, 110] (fun v19 v110 wr => ∃ (i : Nat), v110 = .int .i64 i ∧ Aside0 (i ≤ (sortAtts l1).length) ∧ Aside0 (Below w.heap.size w wr) ∧ Aside0 (Kd.R k60 60 wr w.heap.size (fun _ => True) (.slice Ao (sortAtts l1).length co) (sortAtts l1)) ∧ Aside0 (MI wr (w4.heap.size + 1) n2c I9) ∧ Aside0 (Kd.R k39 39 wr w.heap.size (fun _ => True) v19 (stormOut I9 fell ((sortAtts l1).take i) 0))) (fun _ v _ => (sortAtts l1).length - (intOf v).toNat)
            case atStart => exact ⟨0, rfl, ⟨Nat.zero_le _⟩, ⟨HSC.out.below⟩, ⟨HSC.out.ord⟩, ⟨HSC.out.mi⟩, ⟨by rw [List.take_zero]; exact Kd.R_nil _ _ _ _ _⟩⟩
            case round =>
              obtain ⟨i, rfl, HI2, HBD, HOD2, HMD, HUD⟩ := hrel
              have hi2 := HI2.out
              by_cases hlt : i < (sortAtts l1).length
              · obtain ⟨ad, hA, hx0, hx1, hx2⟩ := at_T60 (Kd.R_reads' HOD2.out).2.2 (i : Int) (by omega) (by omega)
                subst hA
                rw [Int.toNat_natCast] at hx0 hx1 hx2
                have hc3 : decide ((i : Int) < (sortAtts l1).length) = true := decide_eq_true (by omega)
                have HOS := Aside0.mk (stormOut_step I9 fell (sortAtts l1) i hlt)
                have hol : (stormOut I9 fell ((sortAtts l1).take i) 0).length ≤ 40 := Nat.le_trans (stormOut_len _ _ _ _) (Nat.le_trans (List.length_take_le' _ _) hso)
                have HOL := Aside0.mk hol
                clear hol
                by_cases hu : (rd_T60 (sortAtts l1) i).f2 = true
                · rw [if_pos hu] at HOS
                  rw [hu] at hx2
                  clear hu
                  by_cases hf0 : 0 ≤ fell
                  · by_cases hf1 : fell < (rd_T60 (sortAtts l1) i).f1
                    · rw [if_pos ⟨hf0, hf1⟩, List.append_nil] at HOS
                      have d1 : decide (fell ≥ 0) = true := decide_eq_true hf0
                      have d2 : decide ((rd_T60 (sortAtts l1) i).f1 > fell) = true := decide_eq_true hf1
                      go_wp2
                      go_roundw
                      case rel => exact ⟨i + 1, by go_num, ⟨by omega⟩, ⟨below_step HBD.out (by repeat (first | exact Below.refl _ _ | apply below_alloc | refine Below.setCell ?_ (by simp) _))⟩, ⟨Kd.R_below HOD2.out (by repeat (first | exact Below.refl _ _ | apply below_alloc | refine Below.setCell ?_ (by simp) _))⟩, ⟨MI_below HMD.out (by repeat (first | exact Below.refl _ _ | apply below_alloc | refine Below.setCell ?_ (by simp) _))⟩, ⟨by rw [HOS.out]; exact Kd.R_below HUD.out (by repeat (first | exact Below.refl _ _ | apply below_alloc | refine Below.setCell ?_ (by simp) _))⟩⟩
                      case measure => simp [intOf]; omega
                    · rw [if_neg (fun q => hf1 q.2)] at HOS
                      have d1 : decide (fell ≥ 0) = true := decide_eq_true hf0
                      have d2 : decide ((rd_T60 (sortAtts l1) i).f1 > fell) = false := decide_eq_false hf1
                      go_wp2_with (first
                        | ((with_reducible refine gate_builtin (b := .append) (xs := #[.tmp 143, .tmp 145]) rfl ?_); at_builtin; refine Kd.R_append k39 (w0 := w) w.heap.size rfl (.tmp 143) (.tmp 145) 30 39 (.agg #[.int .i64 0, .int .i64 0, .int .i64 0]) 24 rfl Try.underlying30 info39 rfl (by decide) (by omega) u19 (stormOut I9 fell ((sortAtts l1).take i) 0) ⟨(rd_T60 (sortAtts l1) i).f0, (rd_T60 (sortAtts l1) i).f1, (rd_T60 (sortAtts l1) i).f1⟩ _ (fun _ => True) (fun _ => False) rfl ?hx (k39_mkM _ _ _ _) (fun _ h => h.elim) (fun _ _ => trivial) ?aO ?aB ?aS ?aL ?_; (case hx => (first | rfl | (go_simp; done) | (simp; done))); (case aO => exact Kd.R_below HUD.out (by repeat (first | exact Below.refl _ _ | apply below_alloc | refine Below.setCell ?_ (by simp) _))); (case aB => exact below_step HBD.out (by repeat (first | exact Below.refl _ _ | apply below_alloc | refine Below.setCell ?_ (by simp) _))); (case aS => exact (below_step HBD.out (by repeat (first | exact Below.refl _ _ | apply below_alloc | refine Below.setCell ?_ (by simp) _))).size); (case aL => have := HOL.out; omega); intro v1 w6 ho6 hb6 hg6 hat6; have HL6 := Aside0.mk (storm_limbs HOD2.out HMD.out HUD.out (by repeat (first | exact Below.refl _ _ | apply below_alloc | refine Below.setCell ?_ (by simp) _)) hg6); have HO6 := Aside0.mk ho6; have HB6 := Aside0.mk hb6; clear ho6 hb6 hg6 hat6)
                        | go_in)
                      go_roundw
                      case rel => exact ⟨i + 1, by go_num, ⟨by omega⟩, HB6, ⟨HL6.out.1⟩, ⟨HL6.out.2⟩, ⟨by rw [HOS.out]; exact HO6.out⟩⟩
                      case measure => simp [intOf]; omega
                  · rw [if_neg (fun q => hf0 q.1)] at HOS
                    have d1 : decide (fell ≥ 0) = false := decide_eq_false hf0
                    go_wp2_with (first
                      | ((with_reducible refine gate_builtin (b := .append) (xs := #[.tmp 143, .tmp 145]) rfl ?_); at_builtin; refine Kd.R_append k39 (w0 := w) w.heap.size rfl (.tmp 143) (.tmp 145) 30 39 (.agg #[.int .i64 0, .int .i64 0, .int .i64 0]) 24 rfl Try.underlying30 info39 rfl (by decide) (by omega) u19 (stormOut I9 fell ((sortAtts l1).take i) 0) ⟨(rd_T60 (sortAtts l1) i).f0, (rd_T60 (sortAtts l1) i).f1, (rd_T60 (sortAtts l1) i).f1⟩ _ (fun _ => True) (fun _ => False) rfl ?hx (k39_mkM _ _ _ _) (fun _ h => h.elim) (fun _ _ => trivial) ?aO ?aB ?aS ?aL ?_; (case hx => (first | rfl | (go_simp; done) | (simp; done))); (case aO => exact Kd.R_below HUD.out (by repeat (first | exact Below.refl _ _ | apply below_alloc | refine Below.setCell ?_ (by simp) _))); (case aB => exact below_step HBD.out (by repeat (first | exact Below.refl _ _ | apply below_alloc | refine Below.setCell ?_ (by simp) _))); (case aS => exact (below_step HBD.out (by repeat (first | exact Below.refl _ _ | apply below_alloc | refine Below.setCell ?_ (by simp) _))).size); (case aL => have := HOL.out; omega); intro v1 w6 ho6 hb6 hg6 hat6; have HL6 := Aside0.mk (storm_limbs HOD2.out HMD.out HUD.out (by repeat (first | exact Below.refl _ _ | apply below_alloc | refine Below.setCell ?_ (by simp) _)) hg6); have HO6 := Aside0.mk ho6; have HB6 := Aside0.mk hb6; clear ho6 hb6 hg6 hat6)
                      | go_in)
                    go_roundw
                    case rel => exact ⟨i + 1, by go_num, ⟨by omega⟩, HB6, ⟨HL6.out.1⟩, ⟨HL6.out.2⟩, ⟨by rw [HOS.out]; exact HO6.out⟩⟩
                    case measure => simp [intOf]; omega
                · rw [if_neg hu] at HOS
                  rw [Bool.eq_false_iff.mpr hu] at hx2
                  clear hu
                  have hmw : MI ((wr.alloc (.cells #[.int .i64 (rd_T60 (sortAtts l1) i).f0, .int .i64 (rd_T60 (sortAtts l1) i).f1, .bool false] 60)).alloc (.cells #[.int .i64 (rd_T60 (sortAtts l1) i).f0, .int .i64 (rd_T60 (sortAtts l1) i).f1, .int .i64 (rd_T60 (sortAtts l1) i).f1] 39)) (w4.heap.size + 1) n2c I9 := MI_below HMD.out (below_alloc (below_alloc (Below.refl _ _) _) _)
                  have hlk := MI_look_ok hmw (i : Int) (wfI _ (by omega))
                  clear hmw
                  cases hI : I9 (i : Int) with
                  | none =>
                    rw [hI] at hlk
                    simp only [Option.getD_none, Option.isSome_none] at hlk
                    simp only [hI, List.append_nil] at HOS
                    clear hI
                    go_wp2
                    go_roundw
                    case rel => exact ⟨i + 1, by go_num, ⟨by omega⟩, ⟨below_step HBD.out (by repeat (first | exact Below.refl _ _ | apply below_alloc | refine Below.setCell ?_ (by simp) _))⟩, ⟨Kd.R_below HOD2.out (by repeat (first | exact Below.refl _ _ | apply below_alloc | refine Below.setCell ?_ (by simp) _))⟩, ⟨MI_below HMD.out (by repeat (first | exact Below.refl _ _ | apply below_alloc | refine Below.setCell ?_ (by simp) _))⟩, ⟨by rw [HOS.out]; exact Kd.R_below HUD.out (by repeat (first | exact Below.refl _ _ | apply below_alloc | refine Below.setCell ?_ (by simp) _))⟩⟩
                    case measure => simp [intOf]; omega
                  | some t9 =>
                    rw [hI] at hlk
                    simp only [Option.getD_some, Option.isSome_some] at hlk
                    simp only [hI] at HOS
                    clear hI
                    go_wp2_with (first
                      | ((with_reducible refine gate_builtin (b := .append) (xs := #[.tmp 143, .tmp 145]) rfl ?_); at_builtin; refine Kd.R_append k39 (w0 := w) w.heap.size rfl (.tmp 143) (.tmp 145) 30 39 (.agg #[.int .i64 0, .int .i64 0, .int .i64 0]) 24 rfl Try.underlying30 info39 rfl (by decide) (by omega) u19 (stormOut I9 fell ((sortAtts l1).take i) 0) ⟨(rd_T60 (sortAtts l1) i).f0, (rd_T60 (sortAtts l1) i).f1, t9⟩ _ (fun _ => True) (fun _ => False) rfl ?hx (k39_mkM _ _ _ _) (fun _ h => h.elim) (fun _ _ => trivial) ?aO ?aB ?aS ?aL ?_; (case hx => (first | rfl | (go_simp; done) | (simp; done))); (case aO => exact Kd.R_below HUD.out (by repeat (first | exact Below.refl _ _ | apply below_alloc | refine Below.setCell ?_ (by simp) _))); (case aB => exact below_step HBD.out (by repeat (first | exact Below.refl _ _ | apply below_alloc | refine Below.setCell ?_ (by simp) _))); (case aS => exact (below_step HBD.out (by repeat (first | exact Below.refl _ _ | apply below_alloc | refine Below.setCell ?_ (by simp) _))).size); (case aL => have := HOL.out; omega); intro v1 w6 ho6 hb6 hg6 hat6; have HL6 := Aside0.mk (storm_limbs HOD2.out HMD.out HUD.out (by repeat (first | exact Below.refl _ _ | apply below_alloc | refine Below.setCell ?_ (by simp) _)) hg6); have HO6 := Aside0.mk ho6; have HB6 := Aside0.mk hb6; clear ho6 hb6 hg6 hat6)
                      | go_in)
                    go_roundw
                    case rel => exact ⟨i + 1, by go_num, ⟨by omega⟩, HB6, ⟨HL6.out.1⟩, ⟨HL6.out.2⟩, ⟨by rw [HOS.out]; exact HO6.out⟩⟩
                    case measure => simp [intOf]; omega
              · have ei : i = (sortAtts l1).length := by omega
                have hc3 : decide ((i : Int) < (sortAtts l1).length) = false := decide_eq_false (by omega)
                rw [ei, List.take_length, HRES.out] at HUD
                subst ei
                go_wp2
                rw [Exit.noGoto_ret]
                refine bodyPost_ret (results_tmp3 (t := 6) (u := 7) (v := 8) rfl _ _ _) rfl ?_
                exact ⟨u19, rfl, HUD.out, HBD.out⟩
    · rw [if_neg hok] at h
      obtain ⟨e1, e2⟩ := Prod.mk.inj (Option.some.inj h)
      obtain ⟨e2, e3⟩ := Prod.mk.inj e2
      subst e1 e2 e3
      clear h
      cases hv : validB l0_0 a0_1 with
      | false =>
        rw [hv] at HKV
        clear hok hv
        go_enter Try.func17, Try.ntmps17
        go_wp2
        go_step3
        go_wp2_with (first
          | (go_at_call 28; (refine (recovery_Valid.calls kv A0_0 c0_0 l0_0 a0_1 false w0 (Kd.C_below HC0.out HB0.out) HL0.out HKV.out).mono ?_); rintro e w1 ⟨rfl, hb1⟩; have HB1 := Aside0.mk (below_step HB0.out hb1); clear hb1)
          | go_in)
        rw [Exit.noGoto_ret]
        refine bodyPost_ret (results_tmp3 (t := 6) (u := 7) (v := 8) rfl _ _ _) rfl ?_
        exact ⟨_, rfl, Kd.R_nil _ _ _ _ _, HB1.out⟩
      | true =>
        rw [hv] at HKV hok
        cases hrd : readyB l1 with
        | false =>
          rw [hrd] at HRE
          clear hok hv hrd
          go_enter Try.func17, Try.ntmps17
          go_wp2
          go_step3
          go_wp2_with (first
            | (go_at_call 28; (refine (recovery_Valid.calls kv A0_0 c0_0 l0_0 a0_1 true w0 (Kd.C_below HC0.out HB0.out) HL0.out HKV.out).mono ?_); rintro e w1 ⟨rfl, hb1⟩; have HB1 := Aside0.mk (below_step HB0.out hb1); clear hb1)
            | (go_at_call 30; (refine (recovery_Ready.calls A1 c1 l1 false w1 (Kd.C_below HC1.out HB1.out) HL1.out HRE.out).mono ?_); rintro e w2 ⟨rfl, hb2⟩; have HB2 := Aside0.mk (below_step HB1.out hb2); clear hb2)
            | go_in)
          rw [Exit.noGoto_ret]
          refine bodyPost_ret (results_tmp3 (t := 6) (u := 7) (v := 8) rfl _ _ _) rfl ?_
          exact ⟨_, rfl, Kd.R_nil _ _ _ _ _, HB2.out⟩
        | true =>
          rw [hrd] at HRE hok
          have hwi := within_false a2 1 100 (fun q => hok ⟨rfl, rfl, q⟩)
          clear hok hv hrd
          go_enter Try.func17, Try.ntmps17
          go_wp2
          go_step3
          go_wp2_with (first
            | (go_at_call 28; (refine (recovery_Valid.calls kv A0_0 c0_0 l0_0 a0_1 true w0 (Kd.C_below HC0.out HB0.out) HL0.out HKV.out).mono ?_); rintro e w1 ⟨rfl, hb1⟩; have HB1 := Aside0.mk (below_step HB0.out hb1); clear hb1)
            | (go_at_call 30; (refine (recovery_Ready.calls A1 c1 l1 true w1 (Kd.C_below HC1.out HB1.out) HL1.out HRE.out).mono ?_); rintro e w2 ⟨rfl, hb2⟩; have HB2 := Aside0.mk (below_step HB1.out hb2); clear hb2)
            | (go_at_call 43; (with_reducible refine (recovery_isWithin.calls _ _ _ _ _ hwi).mono ?_); rintro e w3 ⟨rfl, hd⟩; have HB3 := Aside0.mk (below_step HB2.out hd.below); clear hwi hd)
            | go_in)
          rw [Exit.noGoto_ret]
          refine bodyPost_ret (results_tmp3 (t := 6) (u := 7) (v := 8) rfl _ _ _) rfl ?_
          exact ⟨_, rfl, Kd.R_nil _ _ _ _ _, HB3.out⟩
  · rw [if_neg hlen] at h
    cases h
end Go.Proofs.Ytcldldmedphcfaa.C
