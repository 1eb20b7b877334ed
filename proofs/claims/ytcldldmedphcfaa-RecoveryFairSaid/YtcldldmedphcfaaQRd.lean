import Derived.Test.YtcldldmedphcfaaQKeys
/- Elements of lists of attempts and of tickets. Condition: an index within. -/
namespace Go.Proofs.Ytcldldmedphcfaa.C
open Go.RowKit Go.Proofs.YtcldldmedphcfaaW.PrintWords Go.Proofs.YtcldldmedphcfaaW.PrintLast Go.Proofs.YtcldldmedphcfaaW.PrintMore
set_option linter.unusedVariables false
set_option linter.unusedSimpArgs false
theorem drop60 (l : List S60) (k : Nat) (hk : k < l.length) : l.drop k = rd_T60 l k :: l.drop (k + 1) := by
  rw [List.drop_eq_getElem_cons hk]
  unfold rd_T60
  rw [Int.toNat_natCast, show l.getD k z60 = l[k] by simp [List.getD, hk]]
theorem rd60_mem (l : List S60) (k : Nat) (hk : k < l.length) : rd_T60 l k ∈ l :=
  List.mem_of_mem_drop (by rw [drop60 l k hk]; exact List.mem_cons_self .. : rd_T60 l k ∈ l.drop k)
theorem rd39_mem (l : List S39) (k : Nat) (hk : k < l.length) : rd_T39 l k ∈ l :=
  List.mem_of_mem_drop (by rw [drop39 l k hk]; exact List.mem_cons_self .. : rd_T39 l k ∈ l.drop k)
theorem rd39_get (p : List S39) (i : Nat) (hi : i < p.length) : rd_T39 p (i : Int) = p[i] := by
  unfold rd_T39
  rw [Int.toNat_natCast]
  simp [List.getD, hi]
theorem rd60_get (p : List S60) (i : Nat) (hi : i < p.length) : rd_T60 p (i : Int) = p[i] := by
  unfold rd_T60
  rw [Int.toNat_natCast]
  simp [List.getD, hi]
end Go.Proofs.Ytcldldmedphcfaa.C
