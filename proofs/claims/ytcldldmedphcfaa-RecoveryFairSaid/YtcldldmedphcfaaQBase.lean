import Derived.Test.YtcldldmedphcfaaCSame
import Derived.Test.YtcldldmedphcfaaCCheck
import Derived.Test.YtcldldmedphcfaaCLast
import Derived.Test.YtcldldmedphcfaaCCapacity
import Derived.Test.YtcldldmedphcfaaQValid
import Derived.Test.YtcldldmedphcfaaHPick
/- What Same, Check, Last and Capacity answer, in plain words. Conditions: fewer than 1000 tickets; a valid region. -/
namespace Go.Proofs.Ytcldldmedphcfaa.C
open Go.RowKit Go.Proofs.YtcldldmedphcfaaW.PrintWords Go.Proofs.YtcldldmedphcfaaW.PrintLast Go.Proofs.YtcldldmedphcfaaW.PrintMore
set_option linter.unusedVariables false
theorem drop39 (l : List S39) (k : Nat) (hk : k < l.length) : l.drop k = rd_T39 l k :: l.drop (k + 1) := by
  rw [List.drop_eq_getElem_cons hk]
  unfold rd_T39
  rw [Int.toNat_natCast, show l.getD k z39 = l[k] by simp [List.getD, hk]]
/-- Two tickets are one. -/
def eqT (x y : S39) : Bool := (x.f0 == y.f0) && ((x.f1 == y.f1) && (x.f2 == y.f2))
theorem eqT_iff (x y : S39) : eqT x y = true ↔ x = y := by
  obtain ⟨a, b, c⟩ := x
  obtain ⟨d, e, f⟩ := y
  simp [eqT]
/-- Two lists of tickets are one. -/
def sameB : List S39 → List S39 → Bool
  | [], [] => true
  | x :: a, y :: b => eqT x y && sameB a b
  | _, _ => false
theorem sameB_iff : ∀ a b : List S39, sameB a b = true ↔ a = b
  | [], [] => by simp [sameB]
  | [], _ :: _ => by simp [sameB]
  | _ :: _, [] => by simp [sameB]
  | x :: a, y :: b => by simp [sameB, eqT_iff, sameB_iff a b]
theorem sameB_len {a b : List S39} (h : a.length ≠ b.length) : sameB a b = false := by
  cases hs : sameB a b with
  | false => rfl
  | true => exact absurd (congrArg List.length ((sameB_iff a b).1 hs)) h
theorem ne_cond (x y : S39) : ((!(x.f0 == y.f0) || (!(x.f1 == y.f1) || (!(x.f2 == y.f2)))) = true) ↔ eqT x y = false := by
  unfold eqT
  cases (x.f0 == y.f0) <;> cases (x.f1 == y.f1) <;> cases (x.f2 == y.f2) <;> simp
theorem same_l0 (a b : List S39) (hl : a.length = b.length) (hb : a.length < 100000) (m : Nat) : ∀ i : Nat, i + m = a.length → Ev (fun k => dialtoneref34_Same.l0 k a b (i : Int)) (sameB (a.drop i) (b.drop i)) := by
  induction m with
  | zero =>
    intro i h
    rw [List.drop_eq_nil_of_le (by omega), List.drop_eq_nil_of_le (by omega)]
    refine Ev.step (fun k => ?_) (Ev.now true)
    simp only [dialtoneref34_Same.l0]
    rw [if_neg (by omega)]
  | succ m ih =>
    intro i h
    have hw : ∀ _ : Unit, wrap64 ((i : Int) + 1) = ((i + 1 : Nat) : Int) := fun _ => by unfold wrap64; omega
    rw [drop39 a i (by omega), drop39 b i (by omega)]
    simp only [sameB]
    by_cases c : eqT (rd_T39 a i) (rd_T39 b i) = false
    · rw [c, Bool.false_and]
      refine Ev.step (fun k => ?_) (Ev.now false)
      simp only [dialtoneref34_Same.l0]
      rw [if_pos (by omega), if_pos (by omega), if_pos (by omega), if_pos ((ne_cond _ _).2 c)]
    · have c' : eqT (rd_T39 a i) (rd_T39 b i) = true := by simpa using c
      rw [c', Bool.true_and]
      refine Ev.step (f := fun k => dialtoneref34_Same.l0 k a b ((i + 1 : Nat) : Int)) (fun k => ?_) (ih (i + 1) (by omega))
      simp only [dialtoneref34_Same.l0]
      rw [if_pos (by omega), if_pos (by omega), if_pos (by omega), if_neg (fun q => c ((ne_cond _ _).1 q)), hw ()]
theorem same_ok (a b : List S39) (hb : a.length < 100000) : Ev (fun k => dialtoneref34_Same.f k a b) (sameB a b) := by
  unfold dialtoneref34_Same.f
  by_cases h : (a.length : Int) = (b.length : Int)
  · simp only [if_pos h]
    exact same_l0 a b (by omega) hb a.length 0 (by omega)
  · simp only [if_neg h]
    rw [sameB_len (by omega)]
    exact Ev.now false
theorem equal_l0 (a b : List S39) (hl : a.length = b.length) (hb : a.length < 100000) (m : Nat) : ∀ i : Nat, i + m = a.length → Ev (fun k => api_Ticket.l0 k a b (a.length : Int) (i : Int)) (sameB (a.drop i) (b.drop i)) := by
  induction m with
  | zero =>
    intro i h
    rw [List.drop_eq_nil_of_le (by omega), List.drop_eq_nil_of_le (by omega)]
    refine Ev.step (fun k => ?_) (Ev.now true)
    simp only [api_Ticket.l0]
    rw [if_neg (by omega)]
  | succ m ih =>
    intro i h
    have hw : ∀ _ : Unit, wrap64 ((i : Int) + 1) = ((i + 1 : Nat) : Int) := fun _ => by unfold wrap64; omega
    rw [drop39 a i (by omega), drop39 b i (by omega)]
    simp only [sameB]
    by_cases c : eqT (rd_T39 a i) (rd_T39 b i) = false
    · rw [c, Bool.false_and]
      refine Ev.step (fun k => ?_) (Ev.now false)
      simp only [api_Ticket.l0]
      rw [if_pos (by omega), if_pos (by omega), if_pos (by omega), if_pos (by omega), if_pos ((ne_cond _ _).2 c)]
    · have c' : eqT (rd_T39 a i) (rd_T39 b i) = true := by simpa using c
      rw [c', Bool.true_and]
      refine Ev.step (f := fun k => api_Ticket.l0 k a b (a.length : Int) ((i + 1 : Nat) : Int)) (fun k => ?_) (ih (i + 1) (by omega))
      simp only [api_Ticket.l0]
      rw [if_pos (by omega), if_pos (by omega), if_pos (by omega), if_pos (by omega), if_neg (fun q => c ((ne_cond _ _).1 q)), hw ()]
theorem equal_ok (a b : List S39) (hb : a.length < 100000) : Ev (fun k => api_Ticket.f k a b) (sameB a b) := by
  unfold api_Ticket.f
  by_cases h : (a.length : Int) = (b.length : Int)
  · simp only [if_pos h]
    exact equal_l0 a b (by omega) hb a.length 0 (by omega)
  · simp only [if_neg h]
    rw [sameB_len (by omega)]
    exact Ev.now false
theorem check_ok {s : List S67} {sig : Int} {l : List S60} {p : List S39} (hp : recovery_Plan.f s sig l = some (p, 0)) (q : List S39) (hq : q.length < 100000) : Ev (fun k => recovery_Check.f k s sig l q) (sameB q p) := by
  unfold recovery_Check.f
  rw [hp]
  simp only [Option.bind_some, if_true]
  exact Ev.bind (equal_ok q p hq) (Ev.now _)
/-- The last tick of tickets, and of one before. -/
def lastOf (m : Int) : List S39 → Int
  | [] => m
  | x :: p => lastOf (mx m x.f2) p
theorem last_l0 (p : List S39) (hb : p.length < 100000) (n : Nat) : ∀ (i : Nat) (m : Int), i + n = p.length → Ev (fun k => recovery_Last.l0 k m p (p.length : Int) (i : Int)) (lastOf m (p.drop i), 0) := by
  induction n with
  | zero =>
    intro i m h
    rw [List.drop_eq_nil_of_le (by omega)]
    refine Ev.step (fun k => ?_) (Ev.now _)
    simp only [recovery_Last.l0]
    rw [if_neg (by omega)]
    rfl
  | succ n ih =>
    intro i m h
    have hw : ∀ _ : Unit, wrap64 ((i : Int) + 1) = ((i + 1 : Nat) : Int) := fun _ => by unfold wrap64; omega
    rw [drop39 p i (by omega)]
    refine Ev.step (f := fun k => recovery_Last.l0 k (mx m (rd_T39 p i).f2) p (p.length : Int) ((i + 1 : Nat) : Int)) (fun k => ?_) (ih (i + 1) _ (by omega))
    simp only [recovery_Last.l0]
    rw [if_pos (by omega), if_pos (by omega), if_pos (by omega), hw ()]
theorem last_ok {s : List S67} {sig : Int} {l : List S60} {p : List S39} (hp : recovery_Plan.f s sig l = some (p, 0)) (hb : p.length < 100000) : Ev (fun k => recovery_Last.f k s sig l) (lastOf (-1) p, 0) := by
  unfold recovery_Last.f
  rw [hp]
  simp only [Option.bind_some, if_true]
  exact last_l0 p hb p.length 0 (-1) (by omega)
theorem capacity_ok {s : List S67} {sig : Int} (hv : validB s sig = true) (t : Int) (ht : 0 ≤ t) : Ev (fun k => recovery_Capacity.f k s sig t) (capL s t, 0) := by
  unfold recovery_Capacity.f
  refine Ev.bind (valid_ok s sig) ?_
  simp only [hv, if_true]
  refine Ev.step (fun k => ?_) (Ev.now _)
  simp only [recovery_Capacity.j0]
  rw [decide_eq_false (by omega), cap_valid hv t ht]
  rfl
end Go.Proofs.Ytcldldmedphcfaa.C
