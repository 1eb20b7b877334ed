import Derived.Test.YthbonailomfjlaaCAgree
import Derived.Test.YthbonailomfjlaaHSort
import Derived.Test.YthbonailomfjlaaQSpread
/- What clock.Agree returns: the first run of seconds that most spells have in common. Condition: at most 400 spells. -/
namespace Go.Proofs.Ythbonailomfjlaa.C
open Go.RowKit Go.Proofs.YthbonailomfjlaaW.PrintWords Go.Proofs.YthbonailomfjlaaW.PrintLast Go.Proofs.YthbonailomfjlaaW.PrintMore
/-- How many spells have a second. -/
def cntIn : List S32 → Int → Int
  | [], _ => 0
  | x :: l, s => (if x.f0 ≤ s ∧ s < x.f1 then 1 else 0) + cntIn l s
/-- What is right of the answer of Agree. -/
def AgreeIs (l : List S32) (from_ to_ k : Int) : Prop :=
  (∀ s, cntIn l s ≤ k) ∧ 0 ≤ k ∧ (k = 0 → from_ = 0 ∧ to_ = 0) ∧
  (0 < k → from_ < to_ ∧ (∀ s, s < from_ → cntIn l s < k) ∧ (∀ s, from_ ≤ s → s < to_ → cntIn l s = k) ∧ cntIn l to_ < k)
theorem AgreeIs.unique {l : List S32} {a b k a' b' k' : Int} (h : AgreeIs l a b k) (h' : AgreeIs l a' b' k') : a = a' ∧ b = b' ∧ k = k' := by
  obtain ⟨h1, h2, h3, h4⟩ := h
  obtain ⟨g1, g2, g3, g4⟩ := h'
  have e : k = k' := by
    rcases Int.lt_trichotomy k k' with c | c | c
    · obtain ⟨x1, x2, x3, x4⟩ := g4 (by omega)
      have := x3 a' (by omega) x1
      have := h1 a'
      omega
    · exact c
    · obtain ⟨x1, x2, x3, x4⟩ := h4 (by omega)
      have := x3 a (by omega) x1
      have := g1 a
      omega
  subst e
  by_cases hk : k = 0
  · have := h3 hk
    have := g3 hk
    omega
  · obtain ⟨x1, x2, x3, x4⟩ := h4 (by omega)
    obtain ⟨y1, y2, y3, y4⟩ := g4 (by omega)
    have ea : a = a' := by
      rcases Int.lt_trichotomy a a' with c | c | c
      · have := y2 a c
        have := x3 a (by omega) x1
        omega
      · exact c
      · have := x2 a' c
        have := y3 a' (by omega) y1
        omega
    subst ea
    refine ⟨rfl, ?_, rfl⟩
    rcases Int.lt_trichotomy b b' with c | c | c
    · have := y3 b (by omega) c
      omega
    · exact c
    · have := x3 b' (by omega) c
      omega
/-- The edges of spells. -/
def eds : List S32 → List S56
  | [] => []
  | x :: l => (if x.f0 < x.f1 then [⟨x.f0, 1⟩, ⟨x.f1, -1⟩] else []) ++ eds l
/-- The sum of the steps at the edges up to a second, and of all. -/
def sumLe : List S56 → Int → Int
  | [], _ => 0
  | e :: t, s => (if e.f0 ≤ s then e.f1 else 0) + sumLe t s
def sumBy : List S56 → Int
  | [] => 0
  | e :: t => e.f1 + sumBy t
theorem sumLe_append (a b : List S56) (s : Int) : sumLe (a ++ b) s = sumLe a s + sumLe b s := by
  induction a with
  | nil => simp [sumLe]
  | cons e a ih => simp only [List.cons_append, sumLe, ih]; omega
theorem sumBy_append (a b : List S56) : sumBy (a ++ b) = sumBy a + sumBy b := by
  induction a with
  | nil => simp [sumBy]
  | cons e a ih => simp only [List.cons_append, sumBy, ih]; omega
theorem sumLe_perm {a b : List S56} (h : a.Perm b) (s : Int) : sumLe a s = sumLe b s := by
  induction h with
  | nil => rfl
  | cons x _ ih => simp only [sumLe, ih]
  | swap x y l => simp only [sumLe]; omega
  | trans _ _ h1 h2 => exact h1.trans h2
theorem sumBy_perm {a b : List S56} (h : a.Perm b) : sumBy a = sumBy b := by
  induction h with
  | nil => rfl
  | cons x _ ih => simp only [sumBy, ih]
  | swap x y l => simp only [sumBy]; omega
  | trans _ _ h1 h2 => exact h1.trans h2
theorem sumLe_all (a : List S56) (s : Int) (h : ∀ e, e ∈ a → e.f0 ≤ s) : sumLe a s = sumBy a := by
  induction a with
  | nil => rfl
  | cons e a ih =>
    simp only [sumLe, sumBy]
    rw [if_pos (h e List.mem_cons_self), ih (fun q hq => h q (List.mem_cons_of_mem _ hq))]
theorem sumLe_none (a : List S56) (s : Int) (h : ∀ e, e ∈ a → s < e.f0) : sumLe a s = 0 := by
  induction a with
  | nil => rfl
  | cons e a ih =>
    have := h e List.mem_cons_self
    simp only [sumLe]
    rw [if_neg (by omega), ih (fun q hq => h q (List.mem_cons_of_mem _ hq))]
    rfl
theorem sumLe_eds (l : List S32) (s : Int) : sumLe (eds l) s = cntIn l s := by
  induction l with
  | nil => rfl
  | cons x l ih =>
    simp only [eds, cntIn]
    rw [sumLe_append, ih]
    congr 1
    by_cases h : x.f0 < x.f1
    · rw [if_pos h]
      simp only [sumLe]
      by_cases h1 : x.f0 ≤ s
      · by_cases h2 : x.f1 ≤ s
        · rw [if_pos h1, if_pos h2, if_neg (by omega)]; rfl
        · rw [if_pos h1, if_neg h2, if_pos (by omega)]; rfl
      · rw [if_neg h1, if_neg (show ¬ x.f1 ≤ s by omega), if_neg (by omega)]; rfl
    · rw [if_neg h, if_neg (by omega)]; rfl
theorem sumBy_eds (l : List S32) : sumBy (eds l) = 0 := by
  induction l with
  | nil => rfl
  | cons x l ih =>
    simp only [eds]
    rw [sumBy_append, ih]
    split <;> rfl
/-- Does the next edge lie at the same second? -/
def same (e : S56) : List S56 → Bool
  | [] => false
  | q :: _ => q.f0 == e.f0
/-- The sweep over sorted edges. -/
def sw : List S56 → Int → Int → Bool → Int → Int → Int × Int × Int
  | [], most, _, _, a, b => (a, b, most)
  | e :: es, most, now, op, a, b =>
    if same e es = true then sw es most (now + e.f1) op a b
    else if now + e.f1 > most then sw es (now + e.f1) (now + e.f1) true e.f0 b
    else if op = true ∧ now + e.f1 < most then sw es most (now + e.f1) false a e.f0
    else sw es most (now + e.f1) op a b
/-- The seconds before the first of the edges that are left. -/
def known : List S56 → Int → Prop
  | [], _ => True
  | e :: _, s => s < e.f0
/-- What holds in the sweep; c: how many spells have a second. -/
def SwInv (c : Int → Int) (rest : List S56) (most : Int) (op : Bool) (a b : Int) : Prop :=
  (∀ s, known rest s → c s ≤ most) ∧ 0 ≤ most ∧ (most = 0 → op = false ∧ a = 0 ∧ b = 0) ∧
  (0 < most → (∀ s, s < a → c s < most) ∧ known rest a ∧ (op = true → ∀ s, a ≤ s → known rest s → c s = most) ∧
    (op = false → a < b ∧ known rest b ∧ (∀ s, a ≤ s → s < b → c s = most) ∧ c b < most))
def srt : List S56 → Prop
  | [] => True
  | e :: t => (∀ q, q ∈ t → e.f0 ≤ q.f0) ∧ srt t
theorem srt_append {a b : List S56} (h : srt (a ++ b)) : srt b ∧ ∀ x, x ∈ a → ∀ y, y ∈ b → x.f0 ≤ y.f0 := by
  induction a with
  | nil => exact ⟨h, fun x hx => by cases hx⟩
  | cons e a ih =>
    have := ih h.2
    refine ⟨this.1, fun x hx y hy => ?_⟩
    rcases List.mem_cons.1 hx with rfl | hx
    · exact h.1 y (List.mem_append.2 (Or.inr hy))
    · exact this.2 x hx y hy
theorem sw_ok (c : Int → Int) (t : List S56) (hs : srt t) (hc : ∀ s, c s = sumLe t s) (h0 : sumBy t = 0) (rest : List S56) : ∀ (pre : List S56) (most now : Int) (op : Bool) (a b : Int), t = pre ++ rest → now = sumBy pre → SwInv c rest most op a b →
    ∃ x y k, sw rest most now op a b = (x, y, k) ∧ (∀ s, c s ≤ k) ∧ 0 ≤ k ∧ (k = 0 → x = 0 ∧ y = 0) ∧ (0 < k → x < y ∧ (∀ s, s < x → c s < k) ∧ (∀ s, x ≤ s → s < y → c s = k) ∧ c y < k) := by
  induction rest with
  | nil =>
    intro pre most now op a b ht hn hi
    obtain ⟨i1, i2, i3, i4⟩ := hi
    refine ⟨a, b, most, rfl, fun s => i1 s trivial, i2, fun h => (i3 h).2, fun h => ?_⟩
    obtain ⟨j1, j2, j3, j4⟩ := i4 h
    cases op with
    | false =>
      obtain ⟨k1, k2, k3, k4⟩ := j4 rfl
      exact ⟨k1, j1, k3, k4⟩
    | true =>
      exfalso
      have hbig : ∃ S, ∀ e, e ∈ t → e.f0 ≤ S := by
        clear hs hc h0 ht
        induction t with
        | nil => exact ⟨0, fun e he => by cases he⟩
        | cons e t ih =>
          obtain ⟨S, hS⟩ := ih
          refine ⟨max S e.f0, fun q hq => ?_⟩
          rcases List.mem_cons.1 hq with rfl | hq
          · omega
          · have := hS q hq; omega
      obtain ⟨S, hS⟩ := hbig
      have e1 := j3 rfl (max a S) (by omega) trivial
      rw [hc, sumLe_all t _ (fun e he => by have := hS e he; omega), h0] at e1
      omega
  | cons e es ih =>
    intro pre most now op a b ht hn hi
    have hsp := srt_append (a := pre) (b := e :: es) (by rw [← ht]; exact hs)
    have ht' : t = (pre ++ [e]) ++ es := by rw [ht]; simp
    have hn' : now + e.f1 = sumBy (pre ++ [e]) := by rw [sumBy_append, hn]; simp [sumBy]
    simp only [sw]
    by_cases hg : same e es = true
    · rw [if_pos hg]
      refine ih (pre ++ [e]) most _ op a b ht' hn' ?_
      cases es with
      | nil => cases hg
      | cons q es =>
        have hq : q.f0 = e.f0 := by simpa [same] using hg
        have hk : known (q :: es) = known (e :: q :: es) := by funext s; simp only [known, hq]
        unfold SwInv at hi ⊢
        rw [hk]
        exact hi
    · rw [if_neg hg]
      have hnext : ∀ q, q ∈ es → e.f0 < q.f0 := by
        cases es with
        | nil => intro q hq; cases hq
        | cons p es =>
          have hp : ¬ p.f0 = e.f0 := by simpa [same] using hg
          have hle := hsp.1.1 p List.mem_cons_self
          intro q hq
          rcases List.mem_cons.1 hq with rfl | hq
          · omega
          · have := hsp.1.2.1 q hq; omega
      have hcs : ∀ s, e.f0 ≤ s → known es s → c s = now + e.f1 := by
        intro s h1 h2
        rw [hc, ht', sumLe_append, sumLe_all (pre ++ [e]) s, sumLe_none es s, hn']
        · omega
        · intro q hq
          cases es with
          | nil => cases hq
          | cons p es =>
            have : s < p.f0 := h2
            rcases List.mem_cons.1 hq with rfl | hq
            · exact this
            · have := hsp.1.2.1 q hq; omega
        · intro q hq
          rcases List.mem_append.1 hq with hq | hq
          · have := hsp.2 q hq e List.mem_cons_self; omega
          · have : q = e := by simpa using hq
            subst this; exact h1
      have hkn : known es e.f0 := by
        cases es with
        | nil => trivial
        | cons p es => exact hnext p List.mem_cons_self
      have hkm : ∀ s, s < e.f0 → known es s := by
        intro s hs'
        cases es with
        | nil => trivial
        | cons p es => have := hnext p List.mem_cons_self; show s < p.f0; omega
      obtain ⟨i1, i2, i3, i4⟩ := hi
      have i1' : ∀ s, s < e.f0 → c s ≤ most := i1
      by_cases h1 : now + e.f1 > most
      · rw [if_pos h1]
        refine ih (pre ++ [e]) _ _ true e.f0 b ht' hn' ⟨fun s hs' => ?_, by omega, fun h => by omega, fun _ => ⟨fun s hs' => ?_, hkn, fun _ s h3 h4 => hcs s h3 h4, fun h => by cases h⟩⟩
        · rcases Int.lt_or_le s e.f0 with h | h
          · have := i1' s h; omega
          · rw [hcs s h hs']; exact Int.le_refl _
        · have := i1' s hs'; omega
      · rw [if_neg h1]
        have i1n : ∀ s, known es s → c s ≤ most := by
          intro s hs'
          rcases Int.lt_or_le s e.f0 with h | h
          · exact i1' s h
          · rw [hcs s h hs']; omega
        by_cases h2 : op = true ∧ now + e.f1 < most
        · rw [if_pos h2]
          have hmost : 0 < most := by
            rcases Int.lt_or_le 0 most with h | h
            · exact h
            · have := (i3 (by omega)).1
              rw [h2.1] at this
              cases this
          obtain ⟨j1, j2, j3, j4⟩ := i4 hmost
          have j2' : a < e.f0 := j2
          refine ih (pre ++ [e]) _ _ false a e.f0 ht' hn' ⟨i1n, i2, fun h => by omega, fun _ => ⟨j1, hkm a j2', fun h => (by cases h), fun _ => ⟨j2', hkn, fun s h3 h4 => j3 h2.1 s h3 h4, ?_⟩⟩⟩
          rw [hcs e.f0 (Int.le_refl _) hkn]
          exact h2.2
        · rw [if_neg h2]
          refine ih (pre ++ [e]) _ _ op a b ht' hn' ⟨i1n, i2, i3, fun hm => ?_⟩
          obtain ⟨j1, j2, j3, j4⟩ := i4 hm
          refine ⟨j1, hkm a j2, fun ho s h3 h4 => ?_, fun ho => ?_⟩
          · rcases Int.lt_or_le s e.f0 with h | h
            · exact j3 ho s h3 h
            · have : ¬ now + e.f1 < most := fun h' => h2 ⟨ho, h'⟩
              rw [hcs s h h4]; omega
          · obtain ⟨k1, k2, k3, k4⟩ := j4 ho
            exact ⟨k1, hkm b k2, k3, k4⟩
theorem drop_rd56 (l : List S56) (i : Nat) (h : i < l.length) : l.drop i = rd_T56 l i :: l.drop (i + 1) := by
  rw [List.drop_eq_getElem_cons h]
  unfold rd_T56
  rw [show (i : Int).toNat = i by omega, show l.getD i z56 = l[i] by simp [List.getD, h]]
theorem drop_rd32 (l : List S32) (i : Nat) (h : i < l.length) : l.drop i = rd_T32 l i :: l.drop (i + 1) := by
  rw [List.drop_eq_getElem_cons h]
  unfold rd_T32
  rw [show (i : Int).toNat = i by omega, show l.getD i z32 = l[i] by simp [List.getD, h]]
theorem rd56_mem (l : List S56) (i : Nat) (h : i < l.length) : rd_T56 l i ∈ l := by
  unfold rd_T56
  rw [show (i : Int).toNat = i by omega, show l.getD i z56 = l[i] by simp [List.getD, h]]
  exact List.getElem_mem h
theorem agree_l1 (t : List S56) (hlen : t.length ≤ 100000) (hby : ∀ e, e ∈ t → -1 ≤ e.f1 ∧ e.f1 ≤ 1) (m : Nat) : ∀ (i : Nat) (most now : Int) (op : Bool) (a b : Int), t.length - i = m → i ≤ t.length → -i ≤ now → now ≤ i →
    Ev (fun k => clock_Agree.l1 k t most now op t (t.length : Int) i a b) (sw (t.drop i) most now op a b) := by
  induction m with
  | zero =>
    intro i most now op a b hm hi h1 h2
    rw [List.drop_eq_nil_of_le (by omega)]
    refine ⟨1, fun k hk => ?_⟩
    obtain ⟨k, rfl⟩ : ∃ q, k = q + 1 := ⟨k - 1, by omega⟩
    simp only [clock_Agree.l1, sw]
    rw [if_neg (by omega)]
  | succ m ih =>
    intro i most now op a b hm hi h1 h2
    have hlt : i < t.length := by omega
    have hb := hby _ (rd56_mem t i hlt)
    rw [drop_rd56 t i hlt]
    obtain ⟨e, he⟩ : ∃ e, rd_T56 t i = e := ⟨_, rfl⟩
    rw [he] at hb ⊢
    have hw : wrap64 (now + e.f1) = now + e.f1 := wrap64_id _ (by omega) (by omega)
    have hwi : wrap64 ((i : Int) + 1) = ((i + 1 : Nat) : Int) := by rw [wrap64_id _ (by omega) (by omega)]; rfl
    have hsame : (if ((i + 1 : Nat) : Int) < (t.length : Int) then (rd_T56 t ((i + 1 : Nat) : Int)).f0 == e.f0 else false) = same e (t.drop (i + 1)) := by
      by_cases c : i + 1 < t.length
      · rw [if_pos (by omega), drop_rd56 t (i + 1) c]
        rfl
      · rw [if_neg (by omega), List.drop_eq_nil_of_le (by omega)]
        rfl
    have step1 : ∀ k, clock_Agree.l1 (k + 1) t most now op t (t.length : Int) i a b = clock_Agree.j2 k t most (now + e.f1) op t (t.length : Int) i (same e (t.drop (i + 1))) a b e.f0 e.f1 := by
      intro k
      simp only [clock_Agree.l1]
      rw [if_pos (by omega), if_pos (by omega), if_pos (by omega), hwi, he, hw, ← hsame]
      by_cases c : ((i + 1 : Nat) : Int) < (t.length : Int)
      · rw [if_pos c, if_pos (by omega), if_pos c]
      · rw [if_neg c, if_neg c]
    refine Ev.step step1 ?_
    simp only [sw]
    have go := fun (mo : Int) (o : Bool) (x y : Int) => ih (i + 1) mo (now + e.f1) o x y (by omega) (by omega) (by omega) (by omega)
    by_cases g : same e (t.drop (i + 1)) = true
    · rw [if_pos g, g]
      refine Ev.step (f := fun k => clock_Agree.l1 k t most (now + e.f1) op t (t.length : Int) ((i + 1 : Nat) : Int) a b) (fun k => ?_) (go _ _ _ _)
      simp only [clock_Agree.j2]
      simp only [if_true]
      rw [hwi]
    · rw [if_neg g, show same e (t.drop (i + 1)) = false by simpa using g]
      by_cases c1 : now + e.f1 > most
      · rw [if_pos c1]
        refine Ev.step (f := fun k => clock_Agree.l1 k t (now + e.f1) (now + e.f1) true t (t.length : Int) ((i + 1 : Nat) : Int) e.f0 b) (fun k => ?_) (go _ _ _ _)
        simp only [clock_Agree.j2]
        rw [if_neg (by simp), if_pos c1, hwi]
      · rw [if_neg c1]
        have step2 : ∀ k, clock_Agree.j2 (k + 1) t most (now + e.f1) op t (t.length : Int) i false a b e.f0 e.f1 = clock_Agree.j3 k t most (now + e.f1) op t (t.length : Int) i (op && decide (now + e.f1 < most)) a b e.f0 e.f1 := by
          intro k
          simp only [clock_Agree.j2]
          rw [if_neg (by simp), if_neg c1]
          cases op <;> simp
        refine Ev.step step2 ?_
        by_cases c2 : op = true ∧ now + e.f1 < most
        · rw [if_pos c2]
          refine Ev.step (f := fun k => clock_Agree.l1 k t most (now + e.f1) false t (t.length : Int) ((i + 1 : Nat) : Int) a e.f0) (fun k => ?_) (go _ _ _ _)
          simp only [clock_Agree.j3]
          rw [if_pos (by simp [c2.1, c2.2]), hwi]
        · rw [if_neg c2]
          refine Ev.step (f := fun k => clock_Agree.l1 k t most (now + e.f1) op t (t.length : Int) ((i + 1 : Nat) : Int) a b) (fun k => ?_) (go _ _ _ _)
          simp only [clock_Agree.j3]
          rw [if_neg (by simpa using c2), hwi]
theorem eds_len (l : List S32) : (eds l).length ≤ 2 * l.length := by
  induction l with
  | nil => simp [eds]
  | cons x l ih =>
    simp only [eds, List.length_append, List.length_cons]
    split <;> simp <;> omega
theorem eds_by (l : List S32) (e : S56) (he : e ∈ eds l) : -1 ≤ e.f1 ∧ e.f1 ≤ 1 := by
  induction l with
  | nil => cases he
  | cons x l ih =>
    simp only [eds, List.mem_append] at he
    rcases he with he | he
    · split at he
      · simp at he
        rcases he with rfl | rfl <;> simp
      · cases he
    · exact ih he
theorem agree_l0 (l : List S32) (hl : l.length ≤ 400) (R : Int × Int × Int) (m : Nat) : ∀ (i : Nat) (x : List S56), l.length - i = m → i ≤ l.length → x.length + (eds (l.drop i)).length ≤ 900 →
    Ev (fun k => (clock_edge_31.f (x ++ eds (l.drop i))).bind fun t => clock_Agree.l1 k t 0 0 false t ((x ++ eds (l.drop i)).length : Int) 0 0 0) R →
    Ev (fun k => clock_Agree.l0 k x l (l.length : Int) i) R := by
  induction m with
  | zero =>
    intro i x hm hi hx h
    have e : l.drop i = [] := List.drop_eq_nil_of_le (by omega)
    rw [e] at h
    simp only [eds, List.append_nil] at h
    refine Ev.step (fun k => ?_) h
    simp only [clock_Agree.l0]
    rw [if_neg (by omega)]
  | succ m ih =>
    intro i x hm hi hx h
    have hlt : i < l.length := by omega
    have hwi : wrap64 ((i : Int) + 1) = ((i + 1 : Nat) : Int) := by rw [wrap64_id _ (by omega) (by omega)]; rfl
    rw [drop_rd32 l i hlt] at h hx
    simp only [eds] at h hx
    rw [List.length_append] at hx
    by_cases c : (rd_T32 l i).f0 < (rd_T32 l i).f1
    · rw [if_pos c] at h hx
      rw [← List.append_assoc] at h
      refine Ev.step (fun k => ?_) (ih (i + 1) (x ++ [⟨(rd_T32 l i).f0, 1⟩, ⟨(rd_T32 l i).f1, -1⟩]) (by omega) (by omega) (by rw [List.length_append]; simp at hx ⊢; omega) h)
      simp only [clock_Agree.l0]
      rw [if_pos (by omega), if_pos (by omega), if_pos (by omega), if_pos c]
      simp only [Option.bind_some, List.length_cons, List.length_nil]
      rw [if_pos (by omega), hwi]
    · rw [if_neg c] at h hx
      rw [List.nil_append] at h
      refine Ev.step (fun k => ?_) (ih (i + 1) x (by omega) (by omega) (by simp at hx; omega) h)
      simp only [clock_Agree.l0]
      rw [if_pos (by omega), if_pos (by omega), if_pos (by omega), if_neg c, hwi]
theorem srt_of (l : List S56) (h : ∀ i j : Nat, i < j → j < l.length → (rd_T56 l i).f0 ≤ (rd_T56 l j).f0) : srt l := by
  induction l with
  | nil => trivial
  | cons e t ih =>
    refine ⟨fun q hq => ?_, ih fun i j hij hj => ?_⟩
    · obtain ⟨j, hj, rfl⟩ := List.getElem_of_mem hq
      have := h 0 (j + 1) (by omega) (by simpa using hj)
      unfold rd_T56 at this
      rw [show ((j + 1 : Nat) : Int).toNat = j + 1 by omega] at this
      simp [List.getD, hj] at this
      exact this
    · have := h (i + 1) (j + 1) (by omega) (by simpa using hj)
      unfold rd_T56 at this ⊢
      rw [show ((j + 1 : Nat) : Int).toNat = j + 1 by omega, show ((i + 1 : Nat) : Int).toNat = i + 1 by omega] at this
      rw [show (j : Int).toNat = j by omega, show (i : Int).toNat = i by omega]
      simpa [List.getD] using this
/-- WHAT Agree RETURNS. -/
theorem agree_ok (l : List S32) (hl : l.length ≤ 400) : ∃ a b k, Ev (fun r => clock_Agree.f r l) (a, b, k) ∧ AgreeIs l a b k := by
  have hel := eds_len l
  have hp := sortEdges_perm (eds l)
  have hs : srt (sortEdges (eds l)) := srt_of _ fun i j hij hj => sortEdges_sorted (eds l) i j hij (by rw [← hp.2]; exact hj)
  obtain ⟨a, b, k, hsw, h1, h2, h3, h4⟩ := sw_ok (cntIn l) (sortEdges (eds l)) hs (fun s => by rw [sumLe_perm hp.1, sumLe_eds]) (by rw [sumBy_perm hp.1, sumBy_eds]) (sortEdges (eds l)) [] 0 0 false 0 0 rfl rfl
    ⟨fun s hk => by
      rw [← sumLe_eds, ← sumLe_perm hp.1, sumLe_none]
      · exact Int.le_refl _
      · intro e he
        cases hq : sortEdges (eds l) with
        | nil => rw [hq] at he; cases he
        | cons q t =>
          rw [hq] at he hk hs
          have hk' : s < q.f0 := hk
          rcases List.mem_cons.1 he with rfl | he
          · exact hk'
          · have := hs.1 e he; omega,
     by omega, fun _ => ⟨rfl, rfl, rfl⟩, fun h => by omega⟩
  refine ⟨a, b, k, ?_, h1, h2, h3, h4⟩
  unfold clock_Agree.f
  refine agree_l0 l hl _ l.length 0 [] (by omega) (by omega) (by simp; omega) ?_
  simp only [List.drop_zero, List.nil_append]
  unfold clock_edge_31.f
  rw [if_pos (by omega)]
  simp only [Option.bind_some]
  rw [← hsw, ← hp.2]
  have := agree_l1 (sortEdges (eds l)) (by omega) (fun e he => eds_by l e (hp.1.mem_iff.1 he)) (sortEdges (eds l)).length 0 0 0 false 0 0 (by omega) (by omega) (by omega) (by omega)
  simpa using this
end Go.Proofs.Ythbonailomfjlaa.C
