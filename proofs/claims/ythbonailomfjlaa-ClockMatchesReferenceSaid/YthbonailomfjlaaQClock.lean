import Derived.Test.YthbonailomfjlaaHReads
import Derived.Test.YthbonailomfjlaaHPick
import Derived.Test.YthbonailomfjlaaCAt
import Derived.Test.YthbonailomfjlaaCBefore
/- What pick, Valid, At, Before, After and Reads return, in plain numbers. Conditions: whole numbers of 64 bits. -/
namespace Go.Proofs.Ythbonailomfjlaa.C
open Go.RowKit Go.Proofs.YthbonailomfjlaaW.PrintWords Go.Proofs.YthbonailomfjlaaW.PrintLast Go.Proofs.YthbonailomfjlaaW.PrintMore
/-- pick's value. -/
def pk (a n : Int) : Int := if a < 0 then (-(a + 1)) % n else a % n
theorem pick_ok (a n : Int) (ha : I64 a) (hn : 0 < n) : dialtonelaw05_pick.f a n = some (pk a n) ∧ 0 ≤ pk a n ∧ pk a n < n := by
  unfold dialtonelaw05_pick.f pk
  unfold I64 at ha
  by_cases h : a < 0
  · rw [if_pos h, if_neg (by omega), if_pos h, wrap64_id (a + 1) (by omega) (by omega), wrap64_id (-(a + 1)) (by omega) (by omega), Int.tmod_eq_emod_of_nonneg (by omega)]
    exact ⟨rfl, Int.emod_nonneg _ (by omega), Int.emod_lt_of_pos _ hn⟩
  · rw [if_neg h, if_neg (by omega), if_neg h, Int.tmod_eq_emod_of_nonneg (by omega)]
    exact ⟨rfl, Int.emod_nonneg _ (by omega), Int.emod_lt_of_pos _ hn⟩
/-- The readings are as they must be in a valid clock, behind a local second. -/
def chain : Int → List S50 → Bool
  | _, [] => true
  | a, r :: l => decide (a < r.f0 ∧ r.f0 ≤ 10000000 ∧ 0 ≤ r.f1 ∧ r.f1 ≤ r.f2 ∧ r.f2 ≤ 10000000) && chain r.f0 l
def vld (d : Int) (l : List S50) : Bool := decide (0 ≤ d ∧ d ≤ 100 ∧ l.length ≤ 12) && chain (-1) l
theorem drop_rd (l : List S50) (i : Int) (h0 : 0 ≤ i) (h : i < l.length) : l.drop i.toNat = rd_T50 l i :: l.drop (i + 1).toNat := by
  obtain ⟨k, rfl⟩ : ∃ k : Nat, i = k := ⟨i.toNat, by omega⟩
  have hk : k < l.length := by omega
  rw [show ((k : Int) + 1).toNat = k + 1 by omega, show (k : Int).toNat = k by omega, List.drop_eq_getElem_cons hk]
  unfold rd_T50
  rw [show (k : Int).toNat = k by omega, show l.getD k z50 = l[k] by simp [List.getD, hk]]
theorem valid_l0 (l : List S50) (hl : l.length ≤ 100) (m : Nat) : ∀ (k : Nat) (i a : Int), 0 ≤ i → i ≤ l.length → (l.length : Int) - i = m → 2 * m + 1 ≤ k → clock_Valid.l0 k a l (l.length : Int) i = some (chain a (l.drop i.toNat)) := by
  induction m with
  | zero =>
    intro k i a h0 h1 hm hk
    obtain ⟨k, rfl⟩ : ∃ q, k = q + 1 := ⟨k - 1, by omega⟩
    simp only [clock_Valid.l0]
    rw [if_neg (by omega), show i.toNat = l.length by omega, List.drop_length]
    rfl
  | succ m ih =>
    intro k i a h0 h1 hm hk
    obtain ⟨k, rfl⟩ : ∃ q, k = q + 1 + 1 := ⟨k - 2, by omega⟩
    have hlt : i < (l.length : Int) := by omega
    have ih' := ih k (i + 1) (rd_T50 l i).f0 (by omega) (by omega) (by omega) (by omega)
    rw [drop_rd l i h0 hlt]
    simp only [clock_Valid.l0, clock_Valid.j2, chain]
    simp only [if_true]
    rw [if_pos hlt, if_pos h0, if_pos hlt, wrap64_id (i + 1) (by omega) (by omega), ih']
    by_cases c1 : (rd_T50 l i).f0 ≤ a
    · rw [if_pos c1]; simp [show ¬ a < (rd_T50 l i).f0 by omega]
    · rw [if_neg c1]
      by_cases c2 : (rd_T50 l i).f0 > 10000000
      · rw [if_pos c2]; simp [show ¬ (rd_T50 l i).f0 ≤ 10000000 by omega]
      · rw [if_neg c2]
        by_cases c3 : (rd_T50 l i).f1 < 0
        · rw [if_pos c3]; simp [show ¬ 0 ≤ (rd_T50 l i).f1 by omega]
        · rw [if_neg c3]
          by_cases c4 : (rd_T50 l i).f1 > (rd_T50 l i).f2
          · rw [if_pos c4]; simp [show ¬ (rd_T50 l i).f1 ≤ (rd_T50 l i).f2 by omega]
          · rw [if_neg c4]
            by_cases c5 : (rd_T50 l i).f2 > 10000000
            · rw [decide_eq_true c5]; simp [show ¬ (rd_T50 l i).f2 ≤ 10000000 by omega]
            · rw [decide_eq_false c5]
              simp [show a < (rd_T50 l i).f0 by omega, show (rd_T50 l i).f0 ≤ 10000000 by omega, show 0 ≤ (rd_T50 l i).f1 by omega, show (rd_T50 l i).f1 ≤ (rd_T50 l i).f2 by omega, show (rd_T50 l i).f2 ≤ 10000000 by omega]
theorem valid_ok (d : Int) (l : List S50) (k : Nat) (hk : 40 ≤ k) : clock_Valid.f k d l = some (vld d l) := by
  obtain ⟨k, rfl⟩ : ∃ q, k = q + 1 := ⟨k - 1, by omega⟩
  unfold clock_Valid.f
  simp only [clock_Valid.j0]
  by_cases c1 : d < 0
  · rw [if_pos c1]; simp [vld, show ¬ 0 ≤ d by omega]
  · rw [if_neg c1]
    by_cases c2 : d > 100
    · rw [if_pos c2]; simp [vld, show ¬ d ≤ 100 by omega]
    · rw [if_neg c2]
      by_cases c3 : (l.length : Int) > 12
      · rw [decide_eq_true c3]; simp [vld, show ¬ l.length ≤ 12 by omega]
      · rw [decide_eq_false c3, if_neg (by simp), valid_l0 l (by omega) l.length k 0 (-1) (by omega) (by omega) (by omega) (by omega)]
        simp [vld, show 0 ≤ d by omega, show d ≤ 100 by omega, show l.length ≤ 12 by omega]
theorem chain_all (l : List S50) : ∀ a, -1 ≤ a → chain a l = true → ∀ r, r ∈ l → a < r.f0 ∧ 0 ≤ r.f0 ∧ r.f0 ≤ 10000000 ∧ 0 ≤ r.f1 ∧ r.f1 ≤ 10000000 ∧ 0 ≤ r.f2 ∧ r.f2 ≤ 10000000 ∧ r.f1 ≤ r.f2 := by
  induction l with
  | nil => intro a _ _ r hr; cases hr
  | cons q l ih =>
    intro a ha hc r hr
    simp only [chain, Bool.and_eq_true, decide_eq_true_eq] at hc
    obtain ⟨⟨c1, c2, c3, c4, c5⟩, c6⟩ := hc
    rcases List.mem_cons.1 hr with rfl | hr
    · omega
    · have := ih q.f0 (by omega) c6 r hr; omega
theorem fine_of_vld {d : Int} {l : List S50} (h : vld d l = true) (i : Int) (h0 : 0 ≤ i) (h1 : i ≤ 10000000) : fine d l i = true := by
  simp only [vld, Bool.and_eq_true, decide_eq_true_eq] at h
  obtain ⟨⟨a, b, c⟩, e⟩ := h
  simp only [fine, Bool.and_eq_true, decide_eq_true_eq, List.all_eq_true]
  refine ⟨⟨a, b, h0, h1, by omega⟩, fun r hr => ?_⟩
  have := chain_all l (-1) (by omega) e r hr
  omega
/-- What At returns. -/
def atR (d : Int) (l : List S50) (loc : Int) : Int × Int × Int :=
  if vld d l = true ∧ 0 ≤ loc ∧ loc ≤ 10000000 then (if arLo d loc 0 l > arHi d loc 10000000 l then (0, 0, 50) else (arLo d loc 0 l, arHi d loc 10000000 l, 0)) else (0, 0, 50)
theorem at_ok (d : Int) (l : List S50) (loc : Int) (k : Nat) (hk : 41 ≤ k) : clock_At.f k d l loc = some (atR d l loc) := by
  obtain ⟨k, rfl⟩ : ∃ q, k = q + 1 := ⟨k - 1, by omega⟩
  unfold clock_At.f atR
  rw [valid_ok d l (k + 1) (by omega)]
  simp only [Option.bind_some, clock_At.j0, decide_eq_true_eq]
  by_cases hv : vld d l = true
  · rw [if_pos hv]
    by_cases c1 : loc < 0
    · rw [if_pos c1]; simp only [if_true]; rw [if_neg (by omega)]
    · rw [if_neg c1]
      by_cases c2 : loc > 10000000
      · rw [if_pos c2, if_neg (by omega)]
      · have hf := fine_of_vld hv loc (by omega) (by omega)
        rw [if_neg c2, if_pos ⟨hv, by omega, by omega⟩]
        unfold clock_around.f
        rw [if_pos hf]
        simp only [Option.bind_some]
        split <;> rfl
  · rw [if_neg hv]; simp only [if_true]; rw [if_neg (fun h => hv h.1)]
theorem before_ok (d : Int) (l : List S50) (loc t : Int) (k : Nat) (hk : 41 ≤ k) : clock_Before.f k d l loc t = some (decide ((atR d l loc).2.2 = 0 ∧ (atR d l loc).2.1 < t)) := by
  unfold clock_Before.f
  rw [at_ok d l loc k hk]
  simp only [Option.bind_some]
  by_cases h : (atR d l loc).2.2 = 0
  · rw [if_pos h]; simp [h]
  · rw [if_neg h]; simp [h]
theorem after_ok (d : Int) (l : List S50) (loc t : Int) (k : Nat) (hk : 41 ≤ k) : clock_After.f k d l loc t = some (decide ((atR d l loc).2.2 = 0 ∧ (atR d l loc).1 > t)) := by
  unfold clock_After.f
  rw [at_ok d l loc k hk]
  simp only [Option.bind_some]
  by_cases h : (atR d l loc).2.2 = 0
  · rw [if_pos h]; simp [h]
  · rw [if_neg h]; simp [h]
/-- The first local second that may be shown at t or later, and the first one that is surely shown later. -/
def rdF (d : Int) (l : List S50) (t : Int) : Int := firstI (fun i => decide (t ≤ arHi d i 10000000 l)) 10000001 0
def rdB (d : Int) (l : List S50) (t : Int) : Int := firstI (fun i => decide (t < arLo d i 0 l)) 10000001 0
def readsR (d : Int) (l : List S50) (t : Int) : Int × Int × Int :=
  if vld d l = true ∧ 0 ≤ t ∧ t ≤ 10000000 then (if rdB d l t ≤ rdF d l t then (0, 0, 50) else (rdF d l t, rdB d l t - 1, 0)) else (0, 0, 50)
theorem reads_ok (d : Int) (l : List S50) (t : Int) : clock_Reads.f d l t = some (readsR d l t) := by
  unfold clock_Reads.f readsR rdF rdB
  rw [valid_ok d l 200 (by omega)]
  by_cases hv : vld d l = true
  · by_cases c : t < 0 ∨ 10000000 < t
    · have e : ¬ (vld d l = true ∧ 0 ≤ t ∧ t ≤ 10000000) := by omega
      rw [if_neg e, hv]
      simp only
      rw [if_pos c]
    · have e : vld d l = true ∧ 0 ≤ t ∧ t ≤ 10000000 := ⟨hv, by omega, by omega⟩
      rw [if_pos e, hv]
      simp only
      rw [if_neg c, if_pos (fine_of_vld hv 0 (by omega) (by omega))]
      split <;> rfl
  · have e : ¬ (vld d l = true ∧ 0 ≤ t ∧ t ≤ 10000000) := fun h => hv h.1
    rw [if_neg e, show vld d l = false by simpa using hv]
theorem rdF_iff {d : Int} {l : List S50} (hd : 0 ≤ d ∧ d ≤ 100) (t i : Int) (h0 : 0 ≤ i) (h1 : i ≤ 10000000) : rdF d l t ≤ i ↔ t ≤ arHi d i 10000000 l := by
  obtain ⟨f1, f2, f3, f4⟩ := firstI_tells (fun i => decide (t ≤ arHi d i 10000000 l)) 10000001 0
  constructor
  · intro h
    have := f3 (by unfold rdF at h; omega)
    have m := arHi_mono d _ i l hd.1 hd.2 h 10000000 10000000 (by omega)
    simp only [decide_eq_true_eq] at this
    unfold rdF at m
    omega
  · intro h
    unfold rdF
    refine Decidable.byContradiction fun hn => ?_
    have := f4 i h0 (by omega)
    simp only [decide_eq_false_iff_not] at this
    exact this h
theorem rdB_iff {d : Int} {l : List S50} (hd : 0 ≤ d ∧ d ≤ 100) (t i : Int) (h0 : 0 ≤ i) (h1 : i ≤ 10000000) : rdB d l t ≤ i ↔ t < arLo d i 0 l := by
  obtain ⟨f1, f2, f3, f4⟩ := firstI_tells (fun i => decide (t < arLo d i 0 l)) 10000001 0
  constructor
  · intro h
    have := f3 (by unfold rdB at h; omega)
    have m := arLo_mono d _ i l hd.1 hd.2 h 0 0 (by omega)
    simp only [decide_eq_true_eq] at this
    unfold rdB at m
    omega
  · intro h
    unfold rdB
    refine Decidable.byContradiction fun hn => ?_
    have := f4 i h0 (by omega)
    simp only [decide_eq_false_iff_not] at this
    exact this h
theorem rdF_bd (d : Int) (l : List S50) (t : Int) : 0 ≤ rdF d l t ∧ rdF d l t ≤ 10000001 := by
  obtain ⟨f1, f2, _, _⟩ := firstI_tells (fun i => decide (t ≤ arHi d i 10000000 l)) 10000001 0
  unfold rdF; omega
theorem rdB_bd (d : Int) (l : List S50) (t : Int) : 0 ≤ rdB d l t ∧ rdB d l t ≤ 10000001 := by
  obtain ⟨f1, f2, _, _⟩ := firstI_tells (fun i => decide (t < arLo d i 0 l)) 10000001 0
  unfold rdB; omega
end Go.Proofs.Ythbonailomfjlaa.C
