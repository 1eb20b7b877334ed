import Derived.Test.YtcldldmedphcfaaFStorms
import Derived.Test.YtcldldmedphcfaaQSane
import Derived.Test.YtcldldmedphcfaaQEbb
import Derived.Test.YtcldldmedphcfaaQRd
/- RecoveryStorms, in plain words. Condition: the arguments are ints. -/
namespace Go.Proofs.Ytcldldmedphcfaa.C
open Go.RowKit Go.Proofs.YtcldldmedphcfaaW.PrintWords Go.Proofs.YtcldldmedphcfaaW.PrintLast Go.Proofs.YtcldldmedphcfaaW.PrintMore
set_option linter.unusedVariables false
set_option linter.unusedSimpArgs false
theorem storms_l1 (p : List S39) (hp : p.length < 100000) (A st : Int) (h : st ≤ p.countP (fun x => decide (x.f2 ≤ A))) (n : Nat) : ∀ i c : Nat, i + n = p.length → c + (p.drop i).countP (fun x => decide (x.f2 ≤ A)) = p.countP (fun x => decide (x.f2 ≤ A)) → Ev (fun k => dialtonelaw34_RecoveryStorms.l1 k p A st (c : Int) (i : Int)) true := by
  induction n with
  | zero =>
    intro i c hi hc
    rw [List.drop_eq_nil_of_le (by omega), List.countP_nil, Nat.add_zero] at hc
    refine Ev.step (fun k => ?_) (Ev.now true)
    simp only [dialtonelaw34_RecoveryStorms.l1]
    rw [if_neg (by omega), decide_eq_true (by omega)]
  | succ n ih =>
    intro i c hi hc
    have hle : p.countP (fun x => decide (x.f2 ≤ A)) ≤ p.length := List.countP_le_length
    have hw : wrap64 ((i : Int) + 1) = ((i + 1 : Nat) : Int) := by unfold wrap64; omega
    have hwc : wrap64 ((c : Int) + 1) = ((c + 1 : Nat) : Int) := by unfold wrap64; omega
    rw [drop39 p i (by omega), List.countP_cons] at hc
    by_cases d : (rd_T39 p i).f2 ≤ A
    · rw [if_pos (decide_eq_true d)] at hc
      refine Ev.step (fun k => ?_) (ih (i + 1) (c + 1) (by omega) (by omega))
      simp only [dialtonelaw34_RecoveryStorms.l1]
      rw [if_pos (by omega), if_pos (by omega), if_pos d, hw, hwc]
    · rw [if_neg (by rw [decide_eq_true_eq]; exact d)] at hc
      refine Ev.step (fun k => ?_) (ih (i + 1) c (by omega) (by omega))
      simp only [dialtonelaw34_RecoveryStorms.l1]
      rw [if_pos (by omega), if_pos (by omega), if_neg d, hw]
theorem storms_l0 (p q : List S39) (hq : q.length < 100000) (A fell : Int) (hm : ∀ x ∈ q, x.f1 ≤ x.f2 ∧ (0 ≤ fell → x.f2 ≤ fell)) (hend : Ev (fun k => dialtonelaw34_RecoveryStorms.l1 k p A (q.countP (fun x => decide (x.f2 ≤ A)) : Int) 0 0) true) (n : Nat) : ∀ i c : Nat, i + n = q.length → c + (q.drop i).countP (fun x => decide (x.f2 ≤ A)) = q.countP (fun x => decide (x.f2 ≤ A)) → Ev (fun k => dialtonelaw34_RecoveryStorms.l0 k p q fell A (c : Int) 0 (i : Int)) true := by
  induction n with
  | zero =>
    intro i c hi hc
    rw [List.drop_eq_nil_of_le (by omega), List.countP_nil, Nat.add_zero] at hc
    subst hc
    refine Ev.step (fun k => ?_) hend
    simp only [dialtonelaw34_RecoveryStorms.l0]
    rw [if_neg (by omega)]
  | succ n ih =>
    intro i c hi hc
    have hle : q.countP (fun x => decide (x.f2 ≤ A)) ≤ q.length := List.countP_le_length
    have hw : wrap64 ((i : Int) + 1) = ((i + 1 : Nat) : Int) := by unfold wrap64; omega
    have hwc : wrap64 ((c : Int) + 1) = ((c + 1 : Nat) : Int) := by unfold wrap64; omega
    have hx := hm _ (rd39_mem q i (by omega))
    rw [drop39 q i (by omega), List.countP_cons] at hc
    have go : ∀ c' : Nat, c' + (q.drop (i + 1)).countP (fun x => decide (x.f2 ≤ A)) = q.countP (fun x => decide (x.f2 ≤ A)) → Ev (fun k => dialtonelaw34_RecoveryStorms.j2 k p q fell A (c' : Int) 0 (i : Int)) true := by
      intro c' hc'
      refine Ev.step (f := fun k => dialtonelaw34_RecoveryStorms.j3 k p q fell A (c' : Int) 0 (i : Int) false) (fun k => ?_) (Ev.step (fun k => ?_) (ih (i + 1) c' (by omega) hc'))
      · simp only [dialtonelaw34_RecoveryStorms.j2]
        rw [if_pos (by omega), if_pos (by omega), if_neg (by omega)]
        by_cases e : fell ≥ 0
        · rw [if_pos e, decide_eq_false (by have := hx.2 e; omega)]
        · rw [if_neg e]
      · simp only [dialtonelaw34_RecoveryStorms.j3]
        rw [if_neg Bool.false_ne_true, hw]
    by_cases d : (rd_T39 q i).f2 ≤ A
    · rw [if_pos (decide_eq_true d)] at hc
      refine Ev.step (fun k => ?_) (go (c + 1) (by omega))
      simp only [dialtonelaw34_RecoveryStorms.l0]
      rw [if_pos (by omega), if_pos (by omega), if_pos d, hwc]
    · rw [if_neg (by rw [decide_eq_true_eq]; exact d)] at hc
      refine Ev.step (fun k => ?_) (go c (by omega))
      simp only [dialtonelaw34_RecoveryStorms.l0]
      rw [if_pos (by omega), if_pos (by omega), if_neg d]
/-- What a storm of valid attempts tells. -/
theorem storm_of {S : List S67} {s : Int} {l : List S60} (hreg : Reg S s) (hat : Atts l) (pause : Int) (hp : 1 ≤ pause ∧ pause ≤ 6) : ∃ I fell, recovery_Storm.f S s l pause = some (stormOut I fell (sortAtts l) 0, fell, 0) ∧ stormI S s pause 10000 0 (pendFrom (sortAtts l) 0) (fun _ => none) = some (I, fell) ∧ SE (sortAtts l) S I fell := by
  have hso := sortAtts_perm l
  have h20 := hat.len
  have h0 : ∀ a ∈ sortAtts l, 0 ≤ a.f1 ∧ a.f1 < 25 := fun a ha => hat.at_ a (hso.1.mem_iff.1 ha)
  have hpl := (pendFrom_len (sortAtts l) 0).1
  obtain ⟨⟨I, fell⟩, hr⟩ := storm_ends (S := S) (sig := s) hp (fun T hT => (hreg.cap_pos T hT).1) 10000 0 (pendFrom (sortAtts l) 0) (fun _ => none) (Int.le_refl _) (by omega) (fun x hx => by
    obtain ⟨k, hk, h1, h2, h3⟩ := (pend_mem (sortAtts l) 0 x).1 hx
    have := h0 _ (List.getElem_mem hk)
    omega) (by omega)
  refine ⟨I, fell, ?_, hr, storm_end hp.1 (fun T hT => (cap_range hreg.valid T hT).1) 10000 0 _ _ I fell hr (Int.le_refl _) (SI.start _ S (fun a ha => (h0 a ha).1))⟩
  unfold recovery_Storm.f
  rw [if_pos (by omega), if_pos ⟨hreg.valid, hat.ready, by omega, by omega⟩, storm_eq, hr]
  rfl
theorem storms_ok (l0 : List S71) (a1 : Int) (l2 : List S71) (a3 a4 : Int) (hg0 : ∀ x, x ∈ l0 → I64 x.f0 ∧ I64 x.f1) (hb0 : l0.length * 16 ≤ 140737488351232) (g1 : I64 a1) (hg2 : ∀ x, x ∈ l2 → I64 x.f0 ∧ I64 x.f1) (hb2 : l2.length * 16 ≤ 140737488351232) (g3 : I64 a3) (g4 : I64 a4) :
    Ev (fun k => dialtonelaw34_RecoveryStorms.f k l0 a1 l2 a3 a4) true := by
  obtain ⟨S, s, hm, hreg⟩ := made_ok l0 hg0 (by omega) a1 g1
  obtain ⟨l, ha, hat⟩ := atts_ok l2 hg2 (by omega)
  obtain ⟨p, hp⟩ := planOf hreg.valid hat.ready
  have hlen := hp.len
  have h20 := hat.len
  have hso := sortAtts_perm l
  have hlo : (sortAtts l).length = p.length := by omega
  have hcap : ∀ t : Int, 0 ≤ t → 0 ≤ capL S t := fun t ht => (cap_range hreg.valid t ht).1
  obtain ⟨b, e3, b31, b32⟩ := pick_ok a3 6 g3 (by omega)
  obtain ⟨A, e4, b41, b42⟩ := pick_ok a4 80 g4 (by omega)
  obtain ⟨An, rfl⟩ : ∃ An : Nat, A = An := ⟨A.toNat, by omega⟩
  have hwb : ∀ _ : Unit, wrap64 (1 + b) = 1 + b := fun _ => by unfold wrap64; omega
  obtain ⟨I, fell, hs1, hs2, hs3⟩ := storm_of hreg hat (1 + b) (by omega)
  obtain ⟨J, down, ht1, ht2, ht3⟩ := storm_of hreg hat 1 (by omega)
  have hz := plan_zip S _ _ _ _ hp.go_
  have h0 : ∀ a ∈ sortAtts l, 0 ≤ a.f1 := fun a ham => (hat.at_ a (hso.1.mem_iff.1 ham)).1
  have hdown : down < 0 → stormOut J down (sortAtts l) 0 = p := by
    intro hd
    have hd1 : down = -1 := by rcases ht3.fl with h | h <;> omega
    have hin := ebb hp.go_ (sortAtts_pairwise l) hcap ⟨plan_mono S _ _ _ _ hp.go_, fun z hzm => (hz z hzm).2.2.1⟩ s 10000 0 _ _ J down ht2 hd (Int.le_refl _) (by
      rw [pendT_zero _ p 0 hlo h0 (fun x hx => (hp.bd x hx).2.1)]) (fun k hk hpk hu => by
      rw [if_neg (by have := (hp.bd _ (List.getElem_mem hpk)).2.1; omega)])
    rw [hd1]
    exact out_plan J _ p 0 hlo (fun z hzm => ⟨(hz z hzm).1, (hz z hzm).2.1, (hz z hzm).2.2.2.1⟩) (fun k hk hpk hu => by
      rw [Nat.zero_add]
      exact hin k hk hpk hu)
  have hql : (stormOut I fell (sortAtts l) 0).length ≤ 20 := by
    have := out_len I fell (sortAtts l) 0
    omega
  have hqa : fell < 0 → (stormOut I fell (sortAtts l) 0).length = l.length := by
    intro hf
    have hf1 : fell = -1 := by rcases hs3.fl with h | h <;> omega
    have := out_all I (sortAtts l) 0 (fun k hk hu => by
      rw [Nat.zero_add]
      exact hs3.all hf1 k hk hu)
    rw [hf1, this]
    omega
  have hgot : ∀ (k : Nat) (hk : k < (sortAtts l).length) (v : Int), I ((0 + k : Nat) : Int) = some v → (0 ≤ fell → v ≤ fell) ∧ (sortAtts l)[k].f1 ≤ v := by
    intro k hk v hv
    rw [Nat.zero_add] at hv
    obtain ⟨q1, k', hk', q2, q3, q4⟩ := hs3.got _ v hv
    have : k = k' := by omega
    subst this
    exact ⟨q1, q4⟩
  have hqm := out_mem I fell (sortAtts l) 0 hgot
  have hcnt : (stormOut I fell (sortAtts l) 0).countP (fun x => decide (x.f2 ≤ (An : Int))) ≤ p.countP (fun x => decide (x.f2 ≤ (An : Int))) := by
    have h1 := out_count I fell An (sortAtts l) 0
    have h2 := in_count hp (An : Int)
    have h3 := earliest_pairs hp.go_ (sortAtts_pairwise l) (pairsOf I (sortAtts l) 0) An (pairs_mem I _ 0 h0 (fun k hk v hv => (hgot k hk v hv).2)) (fun T hT0 _ => hs3.cap T hT0) (fun T _ _ => pairs_fst I T _ 0) An (Nat.le_refl _)
    rw [hso.1.countP_eq] at h1
    omega
  have fin : Ev (fun k => dialtonelaw34_RecoveryStorms.j0 k a4 p (stormOut I fell (sortAtts l) 0) fell false) true := by
    refine Ev.step (f := fun k => dialtonelaw34_RecoveryStorms.l0 k p (stormOut I fell (sortAtts l) 0) fell (An : Int) ((0 : Nat) : Int) 0 ((0 : Nat) : Int)) (fun k => ?_) (storms_l0 p _ (by omega) An fell hqm (storms_l1 p (by omega) An _ (by omega) p.length 0 0 (by omega) (by rw [List.drop_zero]; omega)) (stormOut I fell (sortAtts l) 0).length 0 0 (by omega) (by rw [List.drop_zero]; omega))
    simp only [dialtonelaw34_RecoveryStorms.j0]
    rw [if_neg Bool.false_ne_true, e4, Option.bind_some]
    rfl
  unfold dialtonelaw34_RecoveryStorms.f
  refine Ev.bind sane_ok ?_
  simp only [if_true]
  refine Ev.bind hm ?_
  refine Ev.bind ha ?_
  rw [hp.eq]
  simp only [Option.bind_some]
  rw [e3]
  simp only [Option.bind_some, hwb (), hs1, ht1, if_true]
  have hj : (if fell < 0 then (((stormOut I fell (sortAtts l) 0).length : Int) != (l.length : Int)) else false) = false := by
    by_cases c : fell < 0
    · rw [if_pos c, bne_eq_false_iff_eq]
      have := hqa c
      omega
    · rw [if_neg c]
  have fin2 : Ev (fun k => (if fell < 0 then (dialtonelaw34_RecoveryStorms.j0 k a4 p (stormOut I fell (sortAtts l) 0) fell (((stormOut I fell (sortAtts l) 0).length : Int) != (l.length : Int))) else (dialtonelaw34_RecoveryStorms.j0 k a4 p (stormOut I fell (sortAtts l) 0) fell false))) true := by
    by_cases c : fell < 0
    · rw [if_pos c] at hj
      simp only [if_pos c, hj]
      exact fin
    · simp only [if_neg c]
      exact fin
  by_cases c : down < 0
  · simp only [if_pos c]
    rw [hdown c]
    refine Ev.bind (same_ok p p (by omega)) ?_
    rw [(sameB_iff p p).2 rfl]
    simp only [if_true]
    exact fin2
  · simp only [if_neg c]
    exact fin2
end Go.Proofs.Ytcldldmedphcfaa.C
