import Derived.Test.YtcldldmedphcfaaHRange
import Derived.Deep.CutBlock
/- The contract of recovery.Plan. Condition: fewer than 1000 attempts. -/
namespace Go.Proofs.Ytcldldmedphcfaa.C
open Go.RowKit Go.Proofs.YtcldldmedphcfaaW.PrintWords Go.Proofs.YtcldldmedphcfaaW.PrintLast Go.Proofs.YtcldldmedphcfaaW.PrintMore
set_option linter.unusedVariables false
/-- w' is w, but for the blocks among ds. -/
structure ShutOf (w w' : World) (ds : List Nat) : Prop where
  os : w'.os = w.os
  tape : w'.tape = w.tape
  output : w'.output = w.output
  size : w'.heap.size = w.heap.size
  block : ∀ k, k ∉ ds → w'.heap[k]? = w.heap[k]?
/-- The mark of a loop's block. -/
def markOf (b : Nat) : Deferred := { target := .collected b, args := #[] }
theorem leaves_marks {fn : Func} {tmps : Array Value} {v : Value} {R : Ending → World → Prop} (n : Nat) (hres : ∀ w, (results fn tmps).run Try.prog w = .ok v w) : ∀ (ds : List Nat) (w : World), (∀ b ∈ ds, w.heap[b]? = some (.deferred (some []))) → ds.Nodup →
    (∀ w', ShutOf w w' ds → R (.returned v) w') → LeavesInM Fence.wide n Try.prog fn tmps R (ds.map markOf) .returning w
  | [], w, _, _, h => ⟨v, hres w, h w ⟨rfl, rfl, rfl, rfl, fun _ _ => rfl⟩⟩
  | b :: ds, w, hd, hn, h => by
    have hb := hd b (List.mem_cons_self ..)
    have hnb : b ∉ ds := (List.nodup_cons.1 hn).1
    refine ⟨by simp, .inl ⟨b, _, rfl, run_takeDeferred hb, ?_⟩⟩
    refine leaves_marks n hres ds _ (fun c hc => ?_) (List.nodup_cons.1 hn).2 (fun w' hw => h w' ?_)
    · exact (World.putObj_heap_other (fun e => hnb (by rw [← e]; exact hc))).trans (hd c (List.mem_cons_of_mem _ hc))
    · refine ⟨hw.os, hw.tape, hw.output, hw.size.trans (by simp), fun k hk => ?_⟩
      simp only [List.mem_cons, not_or] at hk
      exact (hw.block k hk.2).trans (World.putObj_heap_other hk.1)
theorem R_cells {α : Type} {d : Kd α} {e : Nat} {w w1 : World} {base : Nat} {ok : Nat → Prop} {v : Value} {xs : List α} (h : d.R e w base ok v xs) (hm : ∀ (k : Nat) (cells : Array Value) (q : TypeId), w.heap[k]? = some (Obj.cells cells q (0, 0)) → w1.heap[k]? = w.heap[k]?) : d.R e w1 base ok v xs := by
  refine Kd.R_mono (Kd.R_step (Kd.R_bound h) (fun k hk _ => ?_)) (fun k hk => hk.1)
  obtain ⟨_, _, _, q, _, cells, hc⟩ := hk
  exact hm k cells q hc
attribute [local go_sem] Oper.semAt_some
theorem drop_rd60 (l : List S60) (k : Nat) (hk : k < l.length) : l.drop k = rd_T60 l k :: l.drop (k + 1) := by
  rw [List.drop_eq_getElem_cons hk]
  unfold rd_T60
  rw [Int.toNat_natCast, show l.getD k z60 = l[k] by simp [List.getD, hk]]
theorem ready_len {l : List S60} (h : readyB l = true) : (sortAtts l).length ≤ 40 := by
  unfold readyB at h
  simp only [Bool.and_eq_true, decide_eq_true_eq] at h
  rw [(sortAtts_perm l).2]
  exact h.2.1
theorem ready_at {l : List S60} (h : readyB l = true) (i : Nat) (hi : i < (sortAtts l).length) : 0 ≤ (rd_T60 (sortAtts l) i).f1 ∧ (rd_T60 (sortAtts l) i).f1 ≤ 1000 := by
  unfold readyB at h
  simp only [Bool.and_eq_true, List.all_eq_true] at h
  have hm : rd_T60 (sortAtts l) i ∈ l := by
    rw [← (sortAtts_perm l).1.mem_iff]
    unfold rd_T60
    rw [Int.toNat_natCast, show (sortAtts l).getD i z60 = (sortAtts l)[i] by simp [List.getD, hi]]
    exact List.getElem_mem hi
  have := h.1 _ hm
  unfold okAtt at this
  simp only [Bool.and_eq_true, decide_eq_true_eq] at this
  exact this.2
theorem open42b (A : Option Addr) (n c : Nat) (s : Int) (mb : Nat) (from_ : Int) (w : World) :
    Calls Try.prog 42 #[.agg #[.slice A n c, .int .i64 s], .map (some mb), .int .i64 from_] w fun e w' => ∃ bR bM bF : Nat, e = .returned (.func (.func 56) #[] #[.pointer (some ⟨bF, 0, none⟩), .pointer (some ⟨bM, 0, none⟩), .pointer (some ⟨bR, 0, none⟩)]) ∧ Below w.heap.size w w' ∧
      w'.heap[bR]? = some (.cells #[.slice A n c, .int .i64 s] 26 (0, 0)) ∧ w'.heap[bM]? = some (.cells #[.map (some mb)] 72 (0, 0)) ∧ w'.heap[bF]? = some (.cells #[.int .i64 from_] 3 (0, 0)) :=
  (open42 A n c s mb from_ w).mono fun e w' ⟨he, hw⟩ => by
    subst hw
    refine ⟨_, _, _, he, below_alloc (below_alloc (below_alloc (Below.refl _ _) _) _) _, blk_alloc (blk_alloc (heap_alloc_new _ _) _) _, ?_, ?_⟩
    · rw [show w.heap.size + 1 = (w.alloc (.cells #[.slice A n c, .int .i64 s] 26)).heap.size by rw [World.size_alloc]]
      exact blk_alloc (heap_alloc_new _ _) _
    · rw [show w.heap.size + 2 = ((w.alloc (.cells #[.slice A n c, .int .i64 s] 26)).alloc (.cells #[.map (some mb)] 72)).heap.size by rw [World.size_alloc, World.size_alloc]]
      exact heap_alloc_new _ _
/-- What of the world holds between two rounds of Plan's loop. -/
structure PW (w wr : World) (b0 mb : Nat) (A0_0 : Option Addr) (c0_0 : Nat) (S : List S67) (s : Int) (Ao : Option Addr) (co : Nat) (o : List S60) (vo : Value) (ds : List Nat) (pre : List S39) : Prop where
  below : Below w.heap.size w wr
  blk : wr.heap[b0]? = some (.cells #[.slice A0_0 S.length c0_0, .int .i64 s] 26 (0, 0))
  ord : Kd.R k60 60 wr w.heap.size (fun _ => True) (.slice Ao o.length co) o
  marks : ∀ b ∈ ds, w.heap.size ≤ b ∧ wr.heap[b]? = some (.deferred (some []))
  nodup : ds.Nodup
  mbn : w.heap.size ≤ mb
  mbm : ∃ es clock, wr.heap[mb]? = some (.map es clock)
  out : Kd.R k39 39 wr w.heap.size (fun _ => True) vo pre
theorem PW.step {w wr W : World} {b0 mb : Nat} {A0_0 : Option Addr} {c0_0 : Nat} {S : List S67} {s : Int} {Ao : Option Addr} {co : Nat} {o : List S60} {vo : Value} {ds : List Nat} {pre : List S39} (h : PW w wr b0 mb A0_0 c0_0 S s Ao co o vo ds pre) (hb : Below wr.heap.size wr W) : PW w W b0 mb A0_0 c0_0 S s Ao co o vo ds pre where
  below := below_step h.below hb
  blk := blk_below h.blk hb
  ord := Kd.R_below h.ord hb
  marks := fun b hd => ⟨(h.marks b hd).1, blk_below (h.marks b hd).2 hb⟩
  nodup := h.nodup
  mbn := h.mbn
  mbm := by
    obtain ⟨es, clock, hm⟩ := h.mbm
    exact ⟨es, clock, blk_below hm hb⟩
  out := Kd.R_below h.out hb
theorem PW.marked {w wr : World} {b0 mb : Nat} {A0_0 : Option Addr} {c0_0 : Nat} {S : List S67} {s : Int} {Ao : Option Addr} {co : Nat} {o : List S60} {vo : Value} {ds : List Nat} {pre : List S39} (h : PW w wr b0 mb A0_0 c0_0 S s Ao co o vo ds pre) (b : Nat) (hb : w.heap.size ≤ b) (hm : wr.heap[b]? = some (.deferred (some []))) (hn : b ∉ ds) : PW w wr b0 mb A0_0 c0_0 S s Ao co o vo (b :: ds) pre where
  below := h.below
  blk := h.blk
  ord := h.ord
  marks := fun c hc => by
    rcases List.mem_cons.1 hc with rfl | hc
    · exact ⟨hb, hm⟩
    · exact h.marks c hc
  nodup := List.nodup_cons.2 ⟨hn, h.nodup⟩
  mbn := h.mbn
  mbm := h.mbm
  out := h.out
theorem PW.mapped {w wr W : World} {b0 mb : Nat} {A0_0 : Option Addr} {c0_0 : Nat} {S : List S67} {s : Int} {Ao : Option Addr} {co : Nat} {o : List S60} {vo : Value} {ds : List Nat} {pre : List S39} (h : PW w wr b0 mb A0_0 c0_0 S s Ao co o vo ds pre) (hg : wr.grownBy W (some mb)) (hm : ∃ es clock, W.heap[mb]? = some (.map es clock)) : PW w W b0 mb A0_0 c0_0 S s Ao co o vo ds pre := by
  obtain ⟨es, clock, hmb⟩ := h.mbm
  have hc : ∀ (k : Nat) (cells : Array Value) (q : TypeId), wr.heap[k]? = some (Obj.cells cells q (0, 0)) → W.heap[k]? = wr.heap[k]? := fun k cells q hk => hg.block k (blk_lt hk) (fun e => by
    injection e with e
    rw [e, hmb] at hk
    cases hk)
  refine ⟨h.below.grown hg h.below.size (fun k e => by cases e; exact h.mbn), (hc _ _ _ h.blk).trans h.blk, R_cells h.ord hc, fun b hd => ⟨(h.marks b hd).1, (hg.block b (blk_lt (h.marks b hd).2) (fun e => ?_)).trans (h.marks b hd).2⟩, h.nodup, h.mbn, hm, R_cells h.out hc⟩
  injection e with e
  have := (h.marks b hd).2
  rw [e, hmb] at this
  cases this
theorem PW.appended {w wr W : World} {b0 mb : Nat} {A0_0 : Option Addr} {c0_0 : Nat} {S : List S67} {s : Int} {Ao : Option Addr} {co : Nat} {o : List S60} {vo v1 : Value} {ds : List Nat} {pre pre1 : List S39} (h : PW w wr b0 mb A0_0 c0_0 S s Ao co o vo ds pre) (hg : wr.grownBy W vo.ownBlock) (hb : Below w.heap.size w W) (ho : Kd.R k39 39 W w.heap.size (fun _ => True) v1 pre1) : PW w W b0 mb A0_0 c0_0 S s Ao co o v1 ds pre1 := by
  have hty := Kd.R_typed h.out
  have hne : ∀ (k : Nat) (ob : Obj), wr.heap[k]? = some ob → (∀ cells, ob ≠ Obj.cells cells 39 (0, 0)) → W.heap[k]? = wr.heap[k]? := fun k ob hk hn => hg.block k (blk_lt hk) (fun e => by
    obtain ⟨cells, hc⟩ := hty k e.symm
    rw [hk] at hc
    exact hn cells (Option.some.inj hc))
  refine ⟨hb, (hne _ _ h.blk (fun c e => by injection e with _ e; cases e)).trans h.blk, Kd.R_over' h.ord hty (by decide) hg, fun b hd => ⟨(h.marks b hd).1, (hne _ _ (h.marks b hd).2 (fun c e => by cases e)).trans (h.marks b hd).2⟩, h.nodup, h.mbn, ?_, ho⟩
  obtain ⟨es, clock, hm⟩ := h.mbm
  exact ⟨es, clock, (hne _ _ hm (fun c e => by cases e)).trans hm⟩
theorem PW.mi {w wr W : World} {b0 mb : Nat} {A0_0 : Option Addr} {c0_0 : Nat} {S : List S67} {s : Int} {Ao : Option Addr} {co : Nat} {o : List S60} {vo : Value} {ds : List Nat} {pre : List S39} (h : PW w wr b0 mb A0_0 c0_0 S s Ao co o vo ds pre) (hg : wr.grownBy W vo.ownBlock) {n n' : Nat} {g : Int → Option Int} (hm : MI wr mb n g) (hn : n ≤ n') : MI W mb n' g := by
  refine MI_mono (MI_kept hm hg (fun e => ?_)) hn
  obtain ⟨cells, hc⟩ := Kd.R_typed h.out mb e.symm
  obtain ⟨es, clock, hmb⟩ := MI_map hm
  rw [hmb] at hc
  cases hc
/-- What of the numbers holds between two rounds of Plan's loop. -/
structure PN (S : List S67) (o : List S60) (r1 : List S39) (i : Nat) (from_ : Int) (g : Int → Option Int) (pre suf : List S39) : Prop where
  hi : i ≤ o.length
  bd : 0 ≤ from_ ∧ from_ ≤ 1000 + 2000 * i
  gb : ∀ k, 0 ≤ (g k).getD 0 ∧ (g k).getD 0 ≤ i
  go_ : planGo S (o.drop i) (fun k => (g k).getD 0) from_ = some suf
  res : r1 = pre ++ suf
  len : pre.length = i
theorem PN.urgent {S : List S67} {o : List S60} {r1 : List S39} {i : Nat} {from_ : Int} {g : Int → Option Int} {pre suf : List S39} (h : PN S o r1 i from_ g pre suf) (hlt : i < o.length) (hu : (rd_T60 o i).f2 = true) :
    ∃ suf', PN S o r1 (i + 1) from_ g (pre ++ [⟨(rd_T60 o i).f0, (rd_T60 o i).f1, (rd_T60 o i).f1⟩]) suf' := by
  have hg := h.go_
  rw [drop_rd60 o i hlt] at hg
  simp only [planGo, if_pos hu] at hg
  obtain ⟨suf', h1, h2⟩ := Option.map_eq_some_iff.1 hg
  refine ⟨suf', by omega, ⟨h.bd.1, by have := h.bd.2; omega⟩, fun k => ⟨(h.gb k).1, by have := (h.gb k).2; omega⟩, h1, ?_, by simp [h.len]⟩
  rw [h.res, ← h2]
  simp
theorem PN.plain {S : List S67} {o : List S60} {r1 : List S39} {i : Nat} {from_ : Int} {g : Int → Option Int} {pre suf : List S39} (h : PN S o r1 i from_ g pre suf) (hlt : i < o.length) (hu : ¬ (rd_T60 o i).f2 = true) (h0 : 0 ≤ (rd_T60 o i).f1 ∧ (rd_T60 o i).f1 ≤ 1000) :
    ∃ t suf', findOpen S (fun k => (g k).getD 0) 2000 (max from_ (rd_T60 o i).f1) = some t ∧ 0 ≤ t ∧ t ≤ 1000 + 2000 * ((i + 1 : Nat) : Int) ∧ PN S o r1 (i + 1) t (upd g t ((g t).getD 0 + 1)) (pre ++ [⟨(rd_T60 o i).f0, (rd_T60 o i).f1, t⟩]) suf' := by
  have hg := h.go_
  rw [drop_rd60 o i hlt] at hg
  simp only [planGo, if_neg hu] at hg
  obtain ⟨t, ht, hg⟩ := Option.bind_eq_some_iff.1 hg
  obtain ⟨suf', h1, h2⟩ := Option.map_eq_some_iff.1 hg
  have hbt := findOpen_bd _ _ _ _ _ ht
  have hb1 := h.bd
  have ht2 : 0 ≤ t ∧ t ≤ 1000 + 2000 * ((i + 1 : Nat) : Int) := by omega
  refine ⟨t, suf', ht, ht2.1, ht2.2, by omega, ht2, fun k => ?_, ?_, ?_, by simp [h.len]⟩
  · unfold upd
    have q1 := h.gb k
    have q2 := h.gb t
    by_cases c : k = t
    · rw [if_pos c]
      simp only [Option.getD_some]
      omega
    · rw [if_neg c]
      omega
  · rw [← h1]
    congr 1
    funext k
    unfold upd inc
    by_cases c : k = t
    · rw [if_pos c, if_pos c]
      rfl
    · rw [if_neg c, if_neg c]
  · rw [h.res, ← h2]
    simp
/-- The loop's frames and worlds. -/
def PlanInv (w : World) (b0 mb : Nat) (A0_0 : Option Addr) (c0_0 : Nat) (S : List S67) (s : Int) (A1 : Option Addr) (n1 c1 : Nat) (Ao : Option Addr) (co : Nat) (o : List S60) (r1 : List S39) (a : Act) (wr : World) : Prop :=
  ∃ (i : Nat) (from_ : Int) (vo : Value) (ds : List Nat) (g : Int → Option Int) (pre suf : List S39) (u10 u11 u26 u27 u28 u29 u30 u31 u32 u33 u34 u35 u36 u37 u38 u39 u40 u41 u42 u43 u44 u45 u49 u50 u51 u52 u53 u54 u55 u56 u57 u58 u59 u60 : Value), (PW w wr b0 mb A0_0 c0_0 S s Ao co o vo ds pre ∧ MI wr mb i g ∧ PN S o r1 i from_ g pre suf) ∧
    a = { tmps := #[.agg #[.slice A0_0 S.length c0_0, .int .i64 s], .slice A1 n1 c1, .pointer (some ⟨b0, 0, none⟩), undef, .slice none 0 0, .int .i64 0, .map (some mb), vo, .int .i64 from_, undef, u10, u11, undef, .agg #[.slice A0_0 S.length c0_0, .int .i64 s], .bool true, .bool false, .bool false, .slice A1 n1 c1, .bool true, .bool false, .bool false, .map (some mb), .slice A1 n1 c1, .slice Ao o.length co, .int .i64 o.length, .int .i64 i, u26, u27, u28, u29, u30, u31, u32, u33, u34, u35, u36, u37, u38, u39, u40, u41, u42, u43, u44, u45, undef, undef, undef, u49, u50, u51, u52, u53, u54, u55, u56, u57, u58, u59, u60, undef], defers := ds.map markOf }
set_option maxHeartbeats 8000000 in
set_option maxRecDepth 100000 in
theorem recovery_Plan.calls (A0_0 : Option Addr) (c0_0 : Nat) (l0_0 : List S67) (a0_1 : Int) (A1 : Option Addr) (c1 : Nat) (l1 : List S60) (r1 : List S39) (r2 : Int) (w : World) (hr0_0 : Kd.C k67 w A0_0 l0_0.length l0_0) (hc0_0 : l0_0.length ≤ c0_0) (hr1 : Kd.C k60 w A1 l1.length l1) (hc1 : l1.length ≤ c1) (h : recovery_Plan.f l0_0 a0_1 l1 = some (r1, r2)) :
    Calls Try.prog 16 #[.agg #[.slice A0_0 l0_0.length c0_0, .int .i64 a0_1], .slice A1 l1.length c1] w fun e w' => ∃ v : Value, e = .returned (.tuple #[v, .int .i64 r2]) ∧ Kd.R k39 39 w' w.heap.size (fun _ => True) v r1 ∧ Below w.heap.size w w' := by
  unfold recovery_Plan.f at h
  by_cases hlen : l1.length < 1000
  · rw [if_pos hlen] at h
    obtain ⟨kv, hkv⟩ := Ev.rounds (valid_ok l0_0 a0_1)
    have HKV := Aside0.mk hkv
    have HC0 := Aside0.mk hr0_0
    have HC1 := Aside0.mk hr1
    have HL0 := Aside0.mk hc0_0
    have HL1 := Aside0.mk hc1
    have HRE : Aside0 (recovery_Ready.f l1 = some (readyB l1)) := ⟨by unfold recovery_Ready.f; rw [if_pos hlen]⟩
    have HLEN := Aside0.mk hlen
    have HOD : Aside0 (recovery_ordered.f l1 = some (sortAtts l1)) := ⟨by unfold recovery_ordered.f; rw [if_pos hlen]⟩
    have hmm := @run_makeMap Try.prog
    obtain ⟨w0, hw0⟩ : ∃ w0, w.alloc (.cells #[.slice A0_0 l0_0.length c0_0, .int .i64 a0_1] 26) = w0 := ⟨_, rfl⟩
    have hB0 : Below w.heap.size w w0 := by rw [← hw0]; exact below_alloc (Below.refl _ _) _
    have hblk0 : w0.heap[w.heap.size]? = some (.cells #[.slice A0_0 l0_0.length c0_0, .int .i64 a0_1] 26 (0, 0)) := by rw [← hw0]; exact heap_alloc_new _ _
    have c00 : w0.cell? ⟨w.heap.size, 0, none⟩ = some (.slice A0_0 l0_0.length c0_0) := (blk_cell hblk0 0).trans rfl
    have c01 : w0.cell? ⟨w.heap.size, 1, none⟩ = some (.int .i64 a0_1) := (blk_cell hblk0 1).trans rfl
    have HB0 := Aside0.mk hB0
    have HK0 := Aside0.mk hblk0
    clear hkv hr0_0 hr1 hc0_0 hc1 hlen hB0 hblk0
    by_cases hv : validB l0_0 a0_1 = true
    · rw [if_pos hv] at h
      by_cases hrd : readyB l1 = true
      · rw [if_pos hrd] at h
        obtain ⟨suf, hsuf, hsr⟩ := Option.map_eq_some_iff.1 h
        simp only [Prod.mk.injEq] at hsr
        obtain ⟨hs1, rfl⟩ := hsr
        subst hs1
        have HV := Aside0.mk hv
        have HRD := Aside0.mk hrd
        have HS := Aside0.mk hsuf
        rw [hv] at HKV
        rw [hrd] at HRE
        clear h hsuf hv hrd
        refine callsIn_wide (n := 6).1 (callsIn_of_wp_marks Try.func16 rfl trivial (wpIn_wide.2 ?_) rfl)
        simp only [Try.ntmps16, List.size_toArray, List.length_cons, List.length_nil, Nat.reduceAdd, Nat.reduceSub, Array.replicate_succ, Array.replicate_zero, List.push_toArray, List.append_toArray, List.nil_append, List.cons_append]
        go_wp2_with (first
          | (go_at_call 28; (refine (recovery_Valid.calls kv A0_0 c0_0 l0_0 a0_1 true w0 (Kd.C_below HC0.out HB0.out) HL0.out HKV.out).mono ?_); rintro e w1 ⟨rfl, hb1⟩; have HB1 := Aside0.mk hb1; clear hb1)
          | (go_at_call 30; (refine (recovery_Ready.calls A1 c1 l1 true w1 (Kd.C_below HC1.out (below_step HB0.out HB1.out)) HL1.out HRE.out).mono ?_); rintro e w2 ⟨rfl, hb2⟩; have HB2 := Aside0.mk hb2; clear hb2)
          | (go_at_call 41; (refine (recovery_ordered.calls A1 c1 l1 (sortAtts l1) _ (Kd.C_below HC1.out (below_alloc (below_step (below_step HB0.out HB1.out) HB2.out) _)) HL1.out HOD.out).mono ?_); rintro e w3 ⟨v3, rfl, ho3, hb3⟩; obtain ⟨Ao, co, rfl⟩ := Kd.R_slice ho3; have HO3 := Aside0.mk ho3; have HB3 := Aside0.mk hb3; clear ho3 hb3)
          | go_in)
        refine wp_loop (PlanInv w w.heap.size w2.heap.size A0_0 c0_0 l0_0 a0_1 A1 l1.length c1 Ao co (sortAtts l1) suf) (fun a _ => (sortAtts l1).length - (intOf (a.tmps.getD 25 undef)).toNat) ?_ ?_
        · have hb2 : Below w.heap.size w w2 := below_step (below_step HB0.out HB1.out) HB2.out
          have hb3 : Below w.heap.size w (w2.alloc (.map #[] 0)) := below_alloc hb2 _
          refine ⟨0, 0, _, [], fun _ => none, [], suf, _, _, _, _, _, _, _, _, _, _, _, _, _, _, _, _, _, _, _, _, _, _, _, _, _, _, _, _, _, _, _, _, _, _, ⟨⟨below_step hb3 HB3.out, blk_below (blk_alloc (blk_below (blk_below HK0.out HB1.out) HB2.out) _) HB3.out, Kd.R_lower HO3.out hb3.size, fun _ hb => absurd hb (List.not_mem_nil), List.nodup_nil, hb2.size, ⟨_, _, blk_below (heap_alloc_new _ _) HB3.out⟩, Kd.R_nil _ _ _ _ _⟩, MI_below (MI_made w2) HB3.out, ⟨Nat.zero_le _, ⟨by omega, by omega⟩, fun k => ⟨Int.le_refl _, Int.le_refl _⟩, HS.out, rfl, rfl⟩⟩, rfl⟩
        · intro _ wr hinv
          unfold PlanInv at hinv
          obtain ⟨i, from_, vo, ds, g, pre, suf', u10, u11, u26, u27, u28, u29, u30, u31, u32, u33, u34, u35, u36, u37, u38, u39, u40, u41, u42, u43, u44, u45, u49, u50, u51, u52, u53, u54, u55, u56, u57, u58, u59, u60, ⟨hpw, hmi, hpn⟩, rfl⟩ := hinv
          have HPW := Aside0.mk hpw
          have HMI := Aside0.mk hmi
          have HPN := Aside0.mk hpn
          have hi := hpn.hi
          have hplen : pre.length = i := hpn.len
          have hso : (sortAtts l1).length ≤ 40 := ready_len HRD.out
          clear hpw hmi hpn
          by_cases hlt : i < (sortAtts l1).length
          · obtain ⟨ad, hA, hx0, hx1, hx2⟩ := at_T60 (Kd.R_reads' HPW.out.ord).2.2 (i : Int) (by omega) (by omega)
            subst hA
            rw [Int.toNat_natCast] at hx0 hx1 hx2
            have hc3 : decide ((i : Int) < (sortAtts l1).length) = true := decide_eq_true (by omega)
            by_cases hu : (rd_T60 (sortAtts l1) i).f2 = true
            · obtain ⟨suf2, hpn2⟩ := HPN.out.urgent hlt hu
              have HPN2 := Aside0.mk hpn2
              rw [hu] at hx2
              clear hpn2 hu
              go_wp2_with (first
                | ((with_reducible refine gate_builtin (b := .append) (xs := #[.tmp 56, .tmp 58]) rfl ?_); at_builtin; refine Kd.R_append k39 (w0 := w) w.heap.size rfl (.tmp 56) (.tmp 58) 30 39 (.agg #[.int .i64 0, .int .i64 0, .int .i64 0]) 24 rfl Try.underlying30 info39 rfl (by decide) (by omega) vo pre ⟨(rd_T60 (sortAtts l1) i).f0, (rd_T60 (sortAtts l1) i).f1, (rd_T60 (sortAtts l1) i).f1⟩ _ (fun _ => True) (fun _ => False) rfl ?hx (k39_mkM _ _ _ _) (fun _ h => h.elim) (fun _ _ => trivial) ?aO ?aB ?aS ?aL ?_; (case hx => (first | rfl | (go_simp; done) | (simp; done))); (case aO => exact Kd.R_alloc (Kd.R_alloc HPW.out.out _) _); (case aB => exact below_alloc (below_alloc HPW.out.below _) _); (case aS => exact (below_alloc (below_alloc HPW.out.below _) _).size); (case aL => omega); intro v1 w6 ho6 hb6 hg6 hat6; have HO6 := Aside0.mk ho6; have HB6 := Aside0.mk hb6; have HG6 := Aside0.mk hg6; clear ho6 hb6 hg6 hat6)
                | go_in)
              refine ⟨⟨i + 1, from_, v1, ds, g, _, suf2, _, _, _, _, _, _, _, _, _, _, _, _, _, _, _, _, _, _, _, _, _, _, _, _, _, _, _, _, _, _, _, _, _, _, ⟨(HPW.out.step (below_alloc (below_alloc (Below.refl _ _) _) _)).appended HG6.out HB6.out HO6.out, (HPW.out.step (below_alloc (below_alloc (Below.refl _ _) _) _)).mi HG6.out (MI_below HMI.out (below_alloc (below_alloc (Below.refl _ _) _) _)) (Nat.le_succ _), HPN2.out⟩, rfl⟩, ?_⟩
              simp [intOf]
              omega
            · obtain ⟨t, suf2, hfo, ht0, ht1, hpn2⟩ := HPN.out.plain hlt hu (ready_at HRD.out i hlt)
              have hat := ready_at HRD.out i hlt
              have HFO := Aside0.mk hfo
              have HPN2 := Aside0.mk hpn2
              rw [Bool.eq_false_iff.mpr hu] at hx2
              clear hpn2 hu hfo
              have hcc : ∀ o o' : Obj, ((wr.alloc o).alloc o').cell? ⟨w.heap.size, 0, none⟩ = some (.slice A0_0 l0_0.length c0_0) ∧ ((wr.alloc o).alloc o').cell? ⟨w.heap.size, 1, none⟩ = some (.int .i64 a0_1) := fun o o' => ⟨(blk_cell (blk_alloc (blk_alloc HPW.out.blk o) o') 0).trans rfl, (blk_cell (blk_alloc (blk_alloc HPW.out.blk o) o') 1).trans rfl⟩
              have HWA : Aside0 (Below wr.heap.size wr ((wr.alloc (.cells #[.int .i64 (rd_T60 (sortAtts l1) i).f0, .int .i64 (rd_T60 (sortAtts l1) i).f1, .bool false] 60)).alloc (.cells #[.int .i64 (rd_T60 (sortAtts l1) i).f0, .int .i64 (rd_T60 (sortAtts l1) i).f1, .int .i64 (rd_T60 (sortAtts l1) i).f1] 39))) := ⟨below_alloc (below_alloc (Below.refl _ _) _) _⟩
              have HTB : Aside0 (((wr.alloc (.cells #[.int .i64 (rd_T60 (sortAtts l1) i).f0, .int .i64 (rd_T60 (sortAtts l1) i).f1, .bool false] 60)).alloc (.cells #[.int .i64 (rd_T60 (sortAtts l1) i).f0, .int .i64 (rd_T60 (sortAtts l1) i).f1, .int .i64 (rd_T60 (sortAtts l1) i).f1] 39)).heap[wr.heap.size + 1]? = some (.cells #[.int .i64 (rd_T60 (sortAtts l1) i).f0, .int .i64 (rd_T60 (sortAtts l1) i).f1, .int .i64 (rd_T60 (sortAtts l1) i).f1] 39 (0, 0))) := ⟨by
                rw [show wr.heap.size + 1 = (wr.alloc (.cells #[.int .i64 (rd_T60 (sortAtts l1) i).f0, .int .i64 (rd_T60 (sortAtts l1) i).f1, .bool false] 60)).heap.size by rw [World.size_alloc]]
                exact heap_alloc_new _ _⟩
              go_wp2_with (first
                | (go_at_call 42; (refine (open42b _ _ _ _ _ _ _).mono ?_); rintro e w4 ⟨bR, bM, bF, rfl, hb4, k1, k2, k3⟩; have HB4 := Aside0.mk (below_step HWA.out hb4); have HTB4 := Aside0.mk (blk_below HTB.out hb4); have HK := Aside0.mk (And.intro k1 (And.intro k2 k3)); clear hb4 k1 k2 k3)
                | go_in)
              refine range_open (wr.heap.size + 1) bR bM bF w2.heap.size i A0_0 c0_0 l0_0 a0_1 (max from_ (rd_T60 (sortAtts l1) i).f1) t (rd_T60 (sortAtts l1) i).f0 (rd_T60 (sortAtts l1) i).f1 (rd_T60 (sortAtts l1) i).f1 g 2000 rfl HV.out ?h0 ?h1 HFO.out ⟨HK.out.1, HK.out.2.1, HK.out.2.2, MI_below HMI.out HB4.out⟩ (Kd.C_below HC0.out (below_step HPW.out.below HB4.out)) HL0.out HTB4.out ?hround ?hQ
              case h0 => have := HPN.out.bd; omega
              case h1 => have := HPN.out.bd; omega
              case hround =>
                intro l fn W1 r hL hrd hne hT
                refine roundIn_of_wpIn trivial ?_
                have hbr := run_beginRound (P := Try.prog) hL hrd
                obtain ⟨W2, hW2⟩ : ∃ W2, W1.putObj l (.loop { r with state := .busy }) = W2 := ⟨_, rfl⟩
                have hL2 : W2.heap[l]? = some (.loop { r with state := .busy }) := by rw [← hW2]; exact World.putObj_heap_same (blk_lt hL)
                have hT2 : W2.heap[wr.heap.size + 1]? = some (.cells #[.int .i64 (rd_T60 (sortAtts l1) i).f0, .int .i64 (rd_T60 (sortAtts l1) i).f1, .int .i64 (rd_T60 (sortAtts l1) i).f1] 39 (0, 0)) := by rw [← hW2]; exact (World.putObj_heap_other hne).trans hT
                have q2 : W2.cell? ⟨wr.heap.size + 1, 2, none⟩ = some (.int .i64 (rd_T60 (sortAtts l1) i).f1) := (blk_cell hT2 2).trans rfl
                have q2f : W2.frozen? ⟨wr.heap.size + 1, 2, none⟩ = false := blk_frozen hT2 2
                have hL3 : (W2.setCell ⟨wr.heap.size + 1, 2, none⟩ (.int .i64 t)).heap[l]? = some (.loop { r with state := .busy }) := (Below.heap_setCell W2 _ _ l (Ne.symm hne)).trans hL2
                have her := run_endRound (P := Try.prog) (some (.exit 2)) hL3
                rw [hW2] at hbr ⊢
                clear hL hrd hT hW2 hL2 hT2
                gi_wp2
                exact ⟨_, _, her, rfl, rfl⟩
              case hQ =>
                intro w5 hA5
                have HA5 := Aside0.mk hA5
                clear hA5
                have q0 : w5.cell? ⟨wr.heap.size + 1, 0, none⟩ = some (.int .i64 (rd_T60 (sortAtts l1) i).f0) := (blk_cell HA5.out.blk 0).trans rfl
                have q1 : w5.cell? ⟨wr.heap.size + 1, 1, none⟩ = some (.int .i64 (rd_T60 (sortAtts l1) i).f1) := (blk_cell HA5.out.blk 1).trans rfl
                have q2 : w5.cell? ⟨wr.heap.size + 1, 2, none⟩ = some (.int .i64 t) := (blk_cell HA5.out.blk 2).trans rfl
                have hb5 : Below wr.heap.size wr w5 := HB4.out.grown HA5.out.grown HB4.out.size (fun k e => by cases e; exact Nat.le_succ _)
                have HB5 := Aside0.mk hb5
                have hmi5 : MI w5 w2.heap.size i g := MI_below HMI.out hb5
                have hwt := wfI t (by omega)
                have hlk := MI_look hmi5 t hwt
                have hgt := HPN.out.gb t
                have hmne : w2.heap.size ≠ wr.heap.size + 1 := by
                  obtain ⟨es, clock, hm⟩ := HPW.out.mbm
                  have := blk_lt hm
                  omega
                have HPW5 := Aside0.mk ((HPW.out.step hb5).marked w4.heap.size (by have h1 := HPW.out.below.size; have h2 := HB4.out.size; omega) HA5.out.mark (fun hd => by have h1 := blk_lt (HPW.out.marks _ hd).2; have h2 := HB4.out.size; omega))
                have HMI5 := Aside0.mk hmi5
                clear hb5 hmi5
                go_wp2_with (first
                  | (at_mapUpdate; refine wpList_MI_put w5 rfl _ _ _ rfl w2.heap.size i g rfl HMI5.out (by omega) t ((g t).getD 0 + 1) hwt (wfI _ (by omega)) rfl ?hv ?_; (case hv => first | rfl | (go_simp; done) | (simp; done)); intro w6 hmi6 hgr6; have HMI6 := Aside0.mk hmi6; have HG6 := Aside0.mk hgr6; have hT6 : w6.heap[wr.heap.size + 1]? = some (.cells #[.int .i64 (rd_T60 (sortAtts l1) i).f0, .int .i64 (rd_T60 (sortAtts l1) i).f1, .int .i64 t] 39 (0, 0)) := ((HG6.out.block _ (blk_lt HA5.out.blk) (fun e => hmne (Option.some.inj e).symm)).trans HA5.out.blk); have p0 : w6.cell? ⟨wr.heap.size + 1, 0, none⟩ = some (.int .i64 (rd_T60 (sortAtts l1) i).f0) := (blk_cell hT6 0).trans rfl; have p1 : w6.cell? ⟨wr.heap.size + 1, 1, none⟩ = some (.int .i64 (rd_T60 (sortAtts l1) i).f1) := (blk_cell hT6 1).trans rfl; have p2 : w6.cell? ⟨wr.heap.size + 1, 2, none⟩ = some (.int .i64 t) := (blk_cell hT6 2).trans rfl; have HPW6 := Aside0.mk (HPW5.out.mapped HG6.out (MI_map hmi6)); clear hmi6 hgr6 hT6)
                  | ((with_reducible refine gate_builtin (b := .append) (xs := #[.tmp 56, .tmp 58]) rfl ?_); at_builtin; refine Kd.R_append k39 (w0 := w) w.heap.size rfl (.tmp 56) (.tmp 58) 30 39 (.agg #[.int .i64 0, .int .i64 0, .int .i64 0]) 24 rfl Try.underlying30 info39 rfl (by decide) (by omega) vo pre ⟨(rd_T60 (sortAtts l1) i).f0, (rd_T60 (sortAtts l1) i).f1, t⟩ _ (fun _ => True) (fun _ => False) rfl ?hx (k39_mkM _ _ _ _) (fun _ h => h.elim) (fun _ _ => trivial) ?aO ?aB ?aS ?aL ?_; (case hx => (first | rfl | (go_simp; done) | (simp; done))); (case aO => exact HPW6.out.out); (case aB => exact HPW6.out.below); (case aS => exact HPW6.out.below.size); (case aL => omega); intro v1 w7 ho7 hb7 hg7 hat7; have HO7 := Aside0.mk ho7; have HB7 := Aside0.mk hb7; have HG7 := Aside0.mk hg7; clear ho7 hb7 hg7 hat7)
                  | go_in)
                refine ⟨⟨i + 1, t, v1, w4.heap.size :: ds, _, _, suf2, _, _, _, _, _, _, _, _, _, _, _, _, _, _, _, _, _, _, _, _, _, _, _, _, _, _, _, _, _, _, _, _, _, _, ⟨HPW6.out.appended HG7.out HB7.out HO7.out, HPW6.out.mi HG7.out HMI6.out (Nat.le_refl _), HPN2.out⟩, rfl⟩, ?_⟩
                simp [intOf]
                omega
          · have ei : i = (sortAtts l1).length := by omega
            have hc3 : decide ((i : Int) < (sortAtts l1).length) = false := decide_eq_false (by omega)
            have hsuf' : suf = pre := by
              have h1 := HPN.out.go_
              rw [ei, List.drop_eq_nil_of_le (Nat.le_refl _)] at h1
              simp only [planGo, Option.some.injEq] at h1
              rw [HPN.out.res, ← h1, List.append_nil]
            clear ei
            go_wp2
            show LeavesInM Fence.wide 6 Try.prog Try.f16 _ _ (ds.map markOf) .returning wr
            refine leaves_marks 6 (v := .tuple #[vo, .int .i64 0]) (fun w => (results_tmp2 (fn := Try.f16) (t := 4) (u := 5) rfl _ _ _).trans rfl) ds wr (fun b hb => (HPW.out.marks b hb).2) HPW.out.nodup (fun w' hs => ⟨vo, rfl, ?_, ?_⟩)
            · rw [hsuf']
              refine R_cells HPW.out.out (fun k cells q hk => hs.block k (fun hd => ?_))
              have := (HPW.out.marks k hd).2
              rw [hk] at this
              cases this
            · refine HPW.out.below.trans ⟨hs.os, hs.tape, hs.output, Nat.le_of_eq hs.size.symm, fun k hk => hs.block k (fun hd => ?_)⟩
              have := (HPW.out.marks k hd).1
              omega
      · rw [if_neg hrd] at h
        obtain ⟨h1, h2⟩ := Prod.mk.inj (Option.some.inj h)
        subst h1 h2
        rw [hv] at HKV
        rw [Bool.eq_false_iff.mpr hrd] at HRE
        clear h hv hrd
        go_enter Try.func16, Try.ntmps16
        go_wp2_with (first
          | (go_at_call 28; (refine (recovery_Valid.calls kv A0_0 c0_0 l0_0 a0_1 true w0 (Kd.C_below HC0.out HB0.out) HL0.out HKV.out).mono ?_); rintro e w1 ⟨rfl, hb1⟩; have HB1 := Aside0.mk hb1; clear hb1)
          | (go_at_call 30; (refine (recovery_Ready.calls A1 c1 l1 false w1 (Kd.C_below HC1.out (below_step HB0.out HB1.out)) HL1.out HRE.out).mono ?_); rintro e w2 ⟨rfl, hb2⟩; have HB2 := Aside0.mk hb2; clear hb2)
          | go_in)
        go_ret2
        exact ⟨_, rfl, Kd.R_nil _ _ _ _ _, below_step (below_step HB0.out HB1.out) HB2.out⟩
    · rw [if_neg hv] at h
      obtain ⟨h1, h2⟩ := Prod.mk.inj (Option.some.inj h)
      subst h1 h2
      rw [Bool.eq_false_iff.mpr hv] at HKV
      clear h hv
      go_enter Try.func16, Try.ntmps16
      go_wp2_with (first
        | (go_at_call 28; (refine (recovery_Valid.calls kv A0_0 c0_0 l0_0 a0_1 false w0 (Kd.C_below HC0.out HB0.out) HL0.out HKV.out).mono ?_); rintro e w1 ⟨rfl, hb1⟩; have HB1 := Aside0.mk hb1; clear hb1)
        | go_in)
      go_ret2
      exact ⟨_, rfl, Kd.R_nil _ _ _ _ _, below_step HB0.out HB1.out⟩
  · rw [if_neg hlen] at h
    cases h
end Go.Proofs.Ytcldldmedphcfaa.C
