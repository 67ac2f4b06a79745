/-
  Plain facts on a side that closes, is asked to end, is told of the end.
  Conditions: none (plain lemmas).
-/
import Derived.Test.YthlfghheciamcaaDoorZ2
namespace Go.Proofs.YthlfghheciamcaaDoor
open Go.RowKit
set_option linter.unusedVariables false

theorem nextI_range (i : Int) : 0 ≤ nextI i ∧ nextI i ≤ 255 := by unfold nextI; omega
theorem do_close9 {n : NegD} (h : n.state = 9) : userDo n 3 = ({ n with state := 4, left := max 0 (n.tries - 1), id := nextI n.id }, [⟨5, nextI n.id, [], emptyB⟩], 0) := by
  rw [userDo_of (by decide) (by decide), evFix_other (by decide), doD_of noRep (show stepD n.state 3 = _ by rw [h]; exact st_9_3)]; rfl
theorem do_more5 {n : NegD} (h : n.state = 5) (hl : n.left = 0) : userDo n 4 = ({ n with state := 3 }, [], 0) := by
  rw [userDo_of (by decide) (by decide), show evFix n 4 = 5 by unfold evFix; rw [if_pos ⟨rfl, hl⟩], doD_of noRep (show stepD n.state 5 = (3, [4], 0) by rw [h]; exact st_5_5)]; rfl
theorem take_term9 {n : NegD} {i : Int} (h : n.state = 9) (hi : 0 ≤ i) (hi2 : i ≤ 255) : takeD n ⟨5, i, [], emptyB⟩ = ({ n with state := 5, left := 0 }, [⟨6, i, [], emptyB⟩], 0) := by
  have hp := put_plain (c := 5) (i := i) (d := emptyB) (by decide) (by omega) (by omega) hi hi2
  unfold takeD
  rw [if_neg (by rw [hp]; simp), if_neg (by omega), eventD_other (r := repOf ⟨5, i, [], emptyB⟩) (by simp [repOf]) (by simp [repOf]) (by simp [repOf]) (by simp [repOf])]
  simp only
  rw [if_pos trivial]
  exact (doD_of (n := n) (ev := 10) (nx := 5) (acts := [2, 6, 11]) _ (show stepD n.state 10 = _ by rw [h]; exact st_9_10)).trans rfl
theorem take_termack4 {n : NegD} {i : Int} (h : n.state = 4) (hi : 0 ≤ i) (hi2 : i ≤ 255) : takeD n ⟨6, i, [], emptyB⟩ = ({ n with state := 2 }, [], 0) := by
  have hp := put_plain (c := 6) (i := i) (d := emptyB) (by decide) (by omega) (by omega) hi hi2
  unfold takeD
  rw [if_neg (by rw [hp]; simp), if_neg (by omega), eventD_other (r := repOf ⟨6, i, [], emptyB⟩) (by simp [repOf]) (by simp [repOf]) (by simp [repOf]) (by simp [repOf])]
  simp only
  rw [if_pos trivial]
  exact (doD_of (n := n) (ev := 11) (nx := 2) (acts := [4]) _ (show stepD n.state 11 = _ by rw [h]; exact st_4_11)).trans rfl
end Go.Proofs.YthlfghheciamcaaDoor
