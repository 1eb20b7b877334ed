import Derived.Test.YthbonailomfjlaaCMade
/- The contract of few: it returns a clock with the first 13 readings of the given one, in the given slice's own cells. Condition: the slice reads as a list. -/
namespace Go.Proofs.Ythbonailomfjlaa.C
open Go.RowKit Go.Proofs.YthbonailomfjlaaW.PrintWords Go.Proofs.YthbonailomfjlaaW.PrintLast Go.Proofs.YthbonailomfjlaaW.PrintMore
attribute [local go_sem] max2_int min2_int max_two min_two max_three min_three max_four min_four
set_option linter.unusedVariables false
theorem info24 : (Try.prog.info? 24).map (fun i => (i.zero, i.size, i.bytes)) = some (some (.agg #[(.int .i64 0), (.slice none 0 0)]), 2, 32) := by kernel_rfl
theorem k50_mkF (W : World) (ok : Nat → Prop) (x : S50) : Kd.FK k50 W ok x [.int .i64 x.f0, .int .i64 x.f1, .int .i64 x.f2] := fun W2 _ => k50_mk W2 x
theorem k24_openF {W : World} {ok : Nat → Prop} {x : S24} {cs : List Value} (h : Kd.FK k24 W ok x cs) : ∃ A1 c1, cs = [.int .i64 x.f0, .slice A1 x.f1.length c1] ∧ x.f1.length ≤ c1 ∧ Kd.F k50 W ok A1 x.f1.length x.f1 := by
  obtain ⟨A1, c1, rfl, l1, _⟩ := k24_open (Kd.FK_now h)
  exact ⟨A1, c1, rfl, l1, (fun W' hW => by obtain ⟨A1_, c1_, he, l1_, g1_⟩ := k24_open (h W' hW); injection (Option.some.inj (show some (Value.slice A1 x.f1.length c1) = some (Value.slice A1_ x.f1.length c1_) from congrArg (fun l => l[1]?) he)) with ha_ _ _; rw [ha_]; exact g1_)⟩
theorem k24_mkF (W : World) (ok : Nat → Prop) (x : S24) {A1 : Option Addr} {c1 : Nat} (l1 : x.f1.length ≤ c1) (g1 : Kd.F k50 W ok A1 x.f1.length x.f1) : Kd.FK k24 W ok x [.int .i64 x.f0, .slice A1 x.f1.length c1] := fun W2 hW => k24_mk W2 x l1 (g1 W2 hW)
def dialtonelaw05_few.f (a0_0 : Int) (l0_1 : List S50) : Option (Int × List S50) := some (a0_0, l0_1.take (mn (l0_1.length : Int) 13).toNat)
/-- A row of readings that came in is read in its own blocks alone, which are elder than the call. -/
theorem F50_of_C {w : World} {A : Option Addr} {n : Nat} {xs : List S50} (h : k50.C w A n xs) : k50.F w (fun k => k < w.heap.size) A n xs := by
  intro W' hW
  refine ⟨h.1, h.2.1, fun hn => ?_⟩
  obtain ⟨ad, e, hc⟩ := h.2.2 hn
  refine ⟨ad, e, fun j p hp => ?_⟩
  obtain ⟨cs, h1, h2, h3⟩ := hc j p hp
  refine ⟨cs, h1, ?_, fun q u hq => ?_⟩
  · obtain rfl := k50_open h2
    exact k50_mk W' p
  · have hu := h3 q u hq
    have hlt : (ad.add (j * k50.sz + q)).block < w.heap.size := by
      unfold World.cell? at hu
      cases hx : w.heap[(ad.add (j * k50.sz + q)).block]? with
      | none => rw [hx] at hu; cases hu
      | some o => exact (Array.getElem?_eq_some_iff.1 hx).1
    have he := hW _ hlt hlt
    unfold World.cell? at hu ⊢
    rw [he]
    exact hu
/-- What few handed back, as long as the call's own blocks are all that changes. -/
theorem few_old {w W : World} {a0 r1 : Int} {A : Option Addr} {l r2 : List S50} (h : k50.C w A l.length l) (hf : dialtonelaw05_few.f a0 l = some (r1, r2)) (hb : Below w.heap.size w W) : k50.F W (fun k => k < w.heap.size) A r2.length r2 := by
  unfold dialtonelaw05_few.f at hf
  simp only [Option.some.injEq, Prod.mk.injEq] at hf
  rw [← hf.2]
  refine Kd.F_below (F50_of_C (Kd.C_take h ?_)) hb
  unfold mn
  split <;> omega
theorem few_len {a0 r1 : Int} {c : Nat} {l r2 : List S50} (hc : l.length ≤ c) (hf : dialtonelaw05_few.f a0 l = some (r1, r2)) : r2.length ≤ c := by
  unfold dialtonelaw05_few.f at hf
  simp only [Option.some.injEq, Prod.mk.injEq] at hf
  rw [← hf.2, List.length_take]
  omega
/-- The clocks, and the row of the one that is worked on. -/
def NX (A : Option Addr) (r : List S50) (W : World) (base : Nat) (ok : Nat → Prop) (v : Value) (xs : List S24) : Prop := Kd.N k24 24 W base ok v xs ∧ Kd.F k50 W (fun _ => True) A r.length r
theorem NX_below {A : Option Addr} {r : List S50} {W w1 : World} {base : Nat} {ok : Nat → Prop} {v : Value} {xs : List S24} (h : NX A r W base ok v xs) (hb : Below W.heap.size W w1) : NX A r w1 base ok v xs := ⟨Kd.N_below h.1 hb, Kd.F_below h.2 hb⟩
theorem NX_alloc {A : Option Addr} {r : List S50} {W : World} {base : Nat} {ok : Nat → Prop} {v : Value} {xs : List S24} (h : NX A r W base ok v xs) (o : Obj) : NX A r (W.alloc o) base ok v xs := ⟨Kd.N_alloc h.1 o, Kd.F_alloc h.2 o⟩
theorem NX_drew {A : Option Addr} {r : List S50} {W : World} {base : Nat} {ok : Nat → Prop} {v : Value} {xs : List S24} (h : NX A r W base ok v xs) : NX A r W.drew base ok v xs := ⟨Kd.N_drew h.1, Kd.F_drew h.2⟩
theorem NX_drewN {A : Option Addr} {r : List S50} {W : World} {base : Nat} {ok : Nat → Prop} {v : Value} {xs : List S24} (h : NX A r W base ok v xs) (m : Nat) : NX A r (W.drewN m) base ok v xs := ⟨Kd.N_drewN h.1 m, Kd.F_drewN h.2 m⟩
set_option maxHeartbeats 4000000 in
theorem dialtonelaw05_few.calls (a0_0 : Int) (A0_1 : Option Addr) (c0_1 : Nat) (l0_1 : List S50) (r1 : Int) (r2 : List S50) (w : World) (hr0_1 : Kd.C k50 w A0_1 l0_1.length l0_1) (hc0_1 : l0_1.length ≤ c0_1) (h : dialtonelaw05_few.f a0_0 l0_1 = some (r1, r2)) :
    Calls Try.prog 15 #[.agg #[.int .i64 a0_0, .slice A0_1 l0_1.length c0_1]] w fun e w' => e = .returned (.agg #[.int .i64 r1, .slice A0_1 r2.length c0_1]) ∧ Below w.heap.size w w' := by
  have hu24 := Try.underlying24
  unfold dialtonelaw05_few.f at h
  simp only [Option.some.injEq, Prod.mk.injEq] at h
  obtain ⟨rfl, rfl⟩ := h
  have hm : (mn (l0_1.length : Int) 13).toNat ≤ l0_1.length := by
    unfold mn
    split <;> omega
  rw [List.length_take, Nat.min_eq_left hm]
  obtain ⟨ji, hji⟩ : ∃ j : Int, mn (l0_1.length : Int) 13 = j := ⟨_, rfl⟩
  have hj0 : 0 ≤ ji := by rw [← hji]; unfold mn; split <;> omega
  have hj1 : ji ≤ (l0_1.length : Int) := by rw [← hji]; unfold mn; split <;> omega
  have hji_ : (if 13 < (l0_1.length : Int) then 13 else (l0_1.length : Int)) = ji := hji
  rw [hji]
  obtain ⟨i0, hi0, _, hsz, _⟩ := info_parts info50
  have hcut := cut_to (P := Try.prog) 22 50 .i64 Try.underlying22 hi0 A0_1 l0_1.length c0_1 ji hj0 hj1 hc0_1
  clear hm hji hr0_1
  go_enter Try.func15, Try.ntmps15
  go_wp2
  go_region
  go_wp2
  refine bodyPost_ret (results_cell_row rfl _ _ (w.heap.size + 1) 24 #[.int .i64 a0_0, .slice A0_1 ji.toNat c0_1] (0, 0) _ rfl ?_ Try.underlying24 rfl (by kernel_rfl)) rfl ?_
  · refine blk_drew ?_
    have := heap_alloc_new (w.alloc (.cells #[.int .i64 a0_0, .slice A0_1 l0_1.length c0_1] 24)) (.cells #[.int .i64 a0_0, .slice A0_1 ji.toNat c0_1] 24)
    rwa [World.size_alloc] at this
  · refine ⟨rfl, below_drew (below_alloc (below_alloc (Below.refl _ _) _) _)⟩
end Go.Proofs.Ythbonailomfjlaa.C
