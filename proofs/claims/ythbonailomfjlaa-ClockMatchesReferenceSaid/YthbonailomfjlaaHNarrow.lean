import Derived.Test.YthbonailomfjlaaCKinds
import Derived.BigRegion
/- The contract of (*window).narrow: it stores the window's two cells and nothing else. Condition: the window's block holds two whole numbers. -/
namespace Go.Proofs.Ythbonailomfjlaa.C
open Go.RowKit Go.Proofs.YthbonailomfjlaaW.PrintWords Go.Proofs.YthbonailomfjlaaW.PrintLast Go.Proofs.YthbonailomfjlaaW.PrintMore
attribute [local go_sem] max2_int min2_int max_two min_two max_three min_three max_four min_four
theorem narrow_any (g : Nat) (a b l h : Int) (w : World) (hb : w.heap[g]? = some (.cells #[.int .i64 a, .int .i64 b] 62 (0, 0))) :
    Calls Try.prog 45 #[.pointer (some ⟨g, 0, none⟩), .int .i64 l, .int .i64 h] w fun e w' => e = .returned (.tuple #[]) ∧
      ((w.setCell ⟨g, 0, none⟩ (.int .i64 (if a < l then l else a))).setCell ⟨g, 1, none⟩ (.int .i64 (if h < b then h else b))).drew = w' := by
  have c0 : w.cell? ⟨g, 0, none⟩ = some (.int .i64 a) := (blk_cell hb 0).trans rfl
  have c1 : w.cell? ⟨g, 1, none⟩ = some (.int .i64 b) := (blk_cell hb 1).trans rfl
  have f0 := blk_frozen hb 0
  have f1 := blk_frozen hb 1
  clear hb
  go_enter Try.func45, Try.ntmps45
  go_wp2
  go_region
  all_goals (go_end0; exact ⟨rfl, rfl⟩)
end Go.Proofs.Ythbonailomfjlaa.C
