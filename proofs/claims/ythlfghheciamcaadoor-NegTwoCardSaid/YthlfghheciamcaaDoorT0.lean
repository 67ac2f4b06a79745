/-
  Every step of the automaton's table, and what an event comes to by it.
  Conditions: none.
-/
import Derived.Test.YthlfghheciamcaaDoorH5
namespace Go.Proofs.YthlfghheciamcaaDoor

theorem st_0_0 : stepD 0 0 = (2, [], 0) := by decide +kernel
theorem st_1_0 : stepD 1 0 = (6, [5, 7], 0) := by decide +kernel
theorem st_2_0 : stepD 2 0 = (0, [], 1001) := by decide +kernel
theorem st_3_0 : stepD 3 0 = (0, [], 1001) := by decide +kernel
theorem st_4_0 : stepD 4 0 = (0, [], 1001) := by decide +kernel
theorem st_5_0 : stepD 5 0 = (0, [], 1001) := by decide +kernel
theorem st_6_0 : stepD 6 0 = (0, [], 1001) := by decide +kernel
theorem st_7_0 : stepD 7 0 = (0, [], 1001) := by decide +kernel
theorem st_8_0 : stepD 8 0 = (0, [], 1001) := by decide +kernel
theorem st_9_0 : stepD 9 0 = (0, [], 1001) := by decide +kernel
theorem st_0_1 : stepD 0 1 = (0, [], 1001) := by decide +kernel
theorem st_1_1 : stepD 1 1 = (0, [], 1001) := by decide +kernel
theorem st_2_1 : stepD 2 1 = (0, [], 0) := by decide +kernel
theorem st_3_1 : stepD 3 1 = (1, [3], 0) := by decide +kernel
theorem st_4_1 : stepD 4 1 = (0, [], 0) := by decide +kernel
theorem st_5_1 : stepD 5 1 = (1, [], 0) := by decide +kernel
theorem st_6_1 : stepD 6 1 = (1, [], 0) := by decide +kernel
theorem st_7_1 : stepD 7 1 = (1, [], 0) := by decide +kernel
theorem st_8_1 : stepD 8 1 = (1, [], 0) := by decide +kernel
theorem st_9_1 : stepD 9 1 = (1, [2], 0) := by decide +kernel
theorem st_0_2 : stepD 0 2 = (1, [3], 0) := by decide +kernel
theorem st_1_2 : stepD 1 2 = (1, [], 0) := by decide +kernel
theorem st_2_2 : stepD 2 2 = (6, [5, 7], 0) := by decide +kernel
theorem st_3_2 : stepD 3 2 = (3, [], 0) := by decide +kernel
theorem st_4_2 : stepD 4 2 = (5, [], 0) := by decide +kernel
theorem st_5_2 : stepD 5 2 = (5, [], 0) := by decide +kernel
theorem st_6_2 : stepD 6 2 = (6, [], 0) := by decide +kernel
theorem st_7_2 : stepD 7 2 = (7, [], 0) := by decide +kernel
theorem st_8_2 : stepD 8 2 = (8, [], 0) := by decide +kernel
theorem st_9_2 : stepD 9 2 = (9, [], 0) := by decide +kernel
theorem st_0_3 : stepD 0 3 = (0, [], 0) := by decide +kernel
theorem st_1_3 : stepD 1 3 = (0, [4], 0) := by decide +kernel
theorem st_2_3 : stepD 2 3 = (2, [], 0) := by decide +kernel
theorem st_3_3 : stepD 3 3 = (2, [], 0) := by decide +kernel
theorem st_4_3 : stepD 4 3 = (4, [], 0) := by decide +kernel
theorem st_5_3 : stepD 5 3 = (4, [], 0) := by decide +kernel
theorem st_6_3 : stepD 6 3 = (4, [5, 10], 0) := by decide +kernel
theorem st_7_3 : stepD 7 3 = (4, [5, 10], 0) := by decide +kernel
theorem st_8_3 : stepD 8 3 = (4, [5, 10], 0) := by decide +kernel
theorem st_9_3 : stepD 9 3 = (4, [2, 5, 10], 0) := by decide +kernel
theorem st_0_4 : stepD 0 4 = (0, [], 1001) := by decide +kernel
theorem st_1_4 : stepD 1 4 = (0, [], 1001) := by decide +kernel
theorem st_2_4 : stepD 2 4 = (0, [], 1001) := by decide +kernel
theorem st_3_4 : stepD 3 4 = (0, [], 1001) := by decide +kernel
theorem st_4_4 : stepD 4 4 = (4, [10], 0) := by decide +kernel
theorem st_5_4 : stepD 5 4 = (5, [10], 0) := by decide +kernel
theorem st_6_4 : stepD 6 4 = (6, [7], 0) := by decide +kernel
theorem st_7_4 : stepD 7 4 = (6, [7], 0) := by decide +kernel
theorem st_8_4 : stepD 8 4 = (8, [7], 0) := by decide +kernel
theorem st_9_4 : stepD 9 4 = (0, [], 1001) := by decide +kernel
theorem st_0_5 : stepD 0 5 = (0, [], 1001) := by decide +kernel
theorem st_1_5 : stepD 1 5 = (0, [], 1001) := by decide +kernel
theorem st_2_5 : stepD 2 5 = (0, [], 1001) := by decide +kernel
theorem st_3_5 : stepD 3 5 = (0, [], 1001) := by decide +kernel
theorem st_4_5 : stepD 4 5 = (2, [4], 0) := by decide +kernel
theorem st_5_5 : stepD 5 5 = (3, [4], 0) := by decide +kernel
theorem st_6_5 : stepD 6 5 = (3, [4], 0) := by decide +kernel
theorem st_7_5 : stepD 7 5 = (3, [4], 0) := by decide +kernel
theorem st_8_5 : stepD 8 5 = (3, [4], 0) := by decide +kernel
theorem st_9_5 : stepD 9 5 = (0, [], 1001) := by decide +kernel
theorem st_0_6 : stepD 0 6 = (0, [], 1001) := by decide +kernel
theorem st_1_6 : stepD 1 6 = (0, [], 1001) := by decide +kernel
theorem st_2_6 : stepD 2 6 = (2, [11], 0) := by decide +kernel
theorem st_3_6 : stepD 3 6 = (8, [5, 7, 8], 0) := by decide +kernel
theorem st_4_6 : stepD 4 6 = (4, [], 0) := by decide +kernel
theorem st_5_6 : stepD 5 6 = (5, [], 0) := by decide +kernel
theorem st_6_6 : stepD 6 6 = (8, [8], 0) := by decide +kernel
theorem st_7_6 : stepD 7 6 = (9, [8, 1], 0) := by decide +kernel
theorem st_8_6 : stepD 8 6 = (8, [8], 0) := by decide +kernel
theorem st_9_6 : stepD 9 6 = (8, [2, 7, 8], 0) := by decide +kernel
theorem st_0_7 : stepD 0 7 = (0, [], 1001) := by decide +kernel
theorem st_1_7 : stepD 1 7 = (0, [], 1001) := by decide +kernel
theorem st_2_7 : stepD 2 7 = (2, [11], 0) := by decide +kernel
theorem st_3_7 : stepD 3 7 = (6, [5, 7, 9], 0) := by decide +kernel
theorem st_4_7 : stepD 4 7 = (4, [], 0) := by decide +kernel
theorem st_5_7 : stepD 5 7 = (5, [], 0) := by decide +kernel
theorem st_6_7 : stepD 6 7 = (6, [9], 0) := by decide +kernel
theorem st_7_7 : stepD 7 7 = (7, [9], 0) := by decide +kernel
theorem st_8_7 : stepD 8 7 = (6, [9], 0) := by decide +kernel
theorem st_9_7 : stepD 9 7 = (6, [2, 7, 9], 0) := by decide +kernel
theorem st_0_8 : stepD 0 8 = (0, [], 1001) := by decide +kernel
theorem st_1_8 : stepD 1 8 = (0, [], 1001) := by decide +kernel
theorem st_2_8 : stepD 2 8 = (2, [11], 0) := by decide +kernel
theorem st_3_8 : stepD 3 8 = (3, [11], 0) := by decide +kernel
theorem st_4_8 : stepD 4 8 = (4, [], 0) := by decide +kernel
theorem st_5_8 : stepD 5 8 = (5, [], 0) := by decide +kernel
theorem st_6_8 : stepD 6 8 = (7, [5], 0) := by decide +kernel
theorem st_7_8 : stepD 7 8 = (6, [7], 0) := by decide +kernel
theorem st_8_8 : stepD 8 8 = (9, [5, 1], 0) := by decide +kernel
theorem st_9_8 : stepD 9 8 = (6, [2, 7], 0) := by decide +kernel
theorem st_0_9 : stepD 0 9 = (0, [], 1001) := by decide +kernel
theorem st_1_9 : stepD 1 9 = (0, [], 1001) := by decide +kernel
theorem st_2_9 : stepD 2 9 = (2, [11], 0) := by decide +kernel
theorem st_3_9 : stepD 3 9 = (3, [11], 0) := by decide +kernel
theorem st_4_9 : stepD 4 9 = (4, [], 0) := by decide +kernel
theorem st_5_9 : stepD 5 9 = (5, [], 0) := by decide +kernel
theorem st_6_9 : stepD 6 9 = (6, [5, 7], 0) := by decide +kernel
theorem st_7_9 : stepD 7 9 = (6, [7], 0) := by decide +kernel
theorem st_8_9 : stepD 8 9 = (8, [5, 7], 0) := by decide +kernel
theorem st_9_9 : stepD 9 9 = (6, [2, 7], 0) := by decide +kernel
theorem st_0_10 : stepD 0 10 = (0, [], 1001) := by decide +kernel
theorem st_1_10 : stepD 1 10 = (0, [], 1001) := by decide +kernel
theorem st_2_10 : stepD 2 10 = (2, [11], 0) := by decide +kernel
theorem st_3_10 : stepD 3 10 = (3, [11], 0) := by decide +kernel
theorem st_4_10 : stepD 4 10 = (4, [11], 0) := by decide +kernel
theorem st_5_10 : stepD 5 10 = (5, [11], 0) := by decide +kernel
theorem st_6_10 : stepD 6 10 = (6, [11], 0) := by decide +kernel
theorem st_7_10 : stepD 7 10 = (6, [11], 0) := by decide +kernel
theorem st_8_10 : stepD 8 10 = (6, [11], 0) := by decide +kernel
theorem st_9_10 : stepD 9 10 = (5, [2, 6, 11], 0) := by decide +kernel
theorem st_0_11 : stepD 0 11 = (0, [], 1001) := by decide +kernel
theorem st_1_11 : stepD 1 11 = (0, [], 1001) := by decide +kernel
theorem st_2_11 : stepD 2 11 = (2, [], 0) := by decide +kernel
theorem st_3_11 : stepD 3 11 = (3, [], 0) := by decide +kernel
theorem st_4_11 : stepD 4 11 = (2, [4], 0) := by decide +kernel
theorem st_5_11 : stepD 5 11 = (3, [4], 0) := by decide +kernel
theorem st_6_11 : stepD 6 11 = (6, [], 0) := by decide +kernel
theorem st_7_11 : stepD 7 11 = (6, [], 0) := by decide +kernel
theorem st_8_11 : stepD 8 11 = (8, [], 0) := by decide +kernel
theorem st_9_11 : stepD 9 11 = (6, [2, 7], 0) := by decide +kernel
theorem st_0_12 : stepD 0 12 = (0, [], 1001) := by decide +kernel
theorem st_1_12 : stepD 1 12 = (0, [], 1001) := by decide +kernel
theorem st_2_12 : stepD 2 12 = (2, [12], 0) := by decide +kernel
theorem st_3_12 : stepD 3 12 = (3, [12], 0) := by decide +kernel
theorem st_4_12 : stepD 4 12 = (4, [12], 0) := by decide +kernel
theorem st_5_12 : stepD 5 12 = (5, [12], 0) := by decide +kernel
theorem st_6_12 : stepD 6 12 = (6, [12], 0) := by decide +kernel
theorem st_7_12 : stepD 7 12 = (7, [12], 0) := by decide +kernel
theorem st_8_12 : stepD 8 12 = (8, [12], 0) := by decide +kernel
theorem st_9_12 : stepD 9 12 = (9, [12], 0) := by decide +kernel
theorem st_0_13 : stepD 0 13 = (0, [], 1001) := by decide +kernel
theorem st_1_13 : stepD 1 13 = (0, [], 1001) := by decide +kernel
theorem st_2_13 : stepD 2 13 = (2, [], 0) := by decide +kernel
theorem st_3_13 : stepD 3 13 = (3, [], 0) := by decide +kernel
theorem st_4_13 : stepD 4 13 = (4, [], 0) := by decide +kernel
theorem st_5_13 : stepD 5 13 = (5, [], 0) := by decide +kernel
theorem st_6_13 : stepD 6 13 = (6, [], 0) := by decide +kernel
theorem st_7_13 : stepD 7 13 = (6, [], 0) := by decide +kernel
theorem st_8_13 : stepD 8 13 = (8, [], 0) := by decide +kernel
theorem st_9_13 : stepD 9 13 = (9, [], 0) := by decide +kernel
theorem st_0_14 : stepD 0 14 = (0, [], 1001) := by decide +kernel
theorem st_1_14 : stepD 1 14 = (0, [], 1001) := by decide +kernel
theorem st_2_14 : stepD 2 14 = (2, [4], 0) := by decide +kernel
theorem st_3_14 : stepD 3 14 = (3, [4], 0) := by decide +kernel
theorem st_4_14 : stepD 4 14 = (2, [4], 0) := by decide +kernel
theorem st_5_14 : stepD 5 14 = (3, [4], 0) := by decide +kernel
theorem st_6_14 : stepD 6 14 = (3, [4], 0) := by decide +kernel
theorem st_7_14 : stepD 7 14 = (3, [4], 0) := by decide +kernel
theorem st_8_14 : stepD 8 14 = (3, [4], 0) := by decide +kernel
theorem st_9_14 : stepD 9 14 = (5, [2, 5, 10], 0) := by decide +kernel
theorem st_0_15 : stepD 0 15 = (0, [], 1001) := by decide +kernel
theorem st_1_15 : stepD 1 15 = (0, [], 1001) := by decide +kernel
theorem st_2_15 : stepD 2 15 = (2, [], 0) := by decide +kernel
theorem st_3_15 : stepD 3 15 = (3, [], 0) := by decide +kernel
theorem st_4_15 : stepD 4 15 = (4, [], 0) := by decide +kernel
theorem st_5_15 : stepD 5 15 = (5, [], 0) := by decide +kernel
theorem st_6_15 : stepD 6 15 = (6, [], 0) := by decide +kernel
theorem st_7_15 : stepD 7 15 = (7, [], 0) := by decide +kernel
theorem st_8_15 : stepD 8 15 = (8, [], 0) := by decide +kernel
theorem st_9_15 : stepD 9 15 = (9, [13], 0) := by decide +kernel

theorem doD_of {n : NegD} {ev nx : Int} {acts : List Int} (r : RepD) (h : stepD n.state ev = (nx, acts, 0)) :
    doD n ev r = ((actAll { n with state := nx } { r with event := ev } acts).1, (actAll { n with state := nx } { r with event := ev } acts).2, 0) := by unfold doD; rw [h]; rfl
theorem doD_never {n : NegD} {ev nx er : Int} {acts : List Int} (r : RepD) (h : stepD n.state ev = (nx, acts, er)) (he : er ≠ 0) : doD n ev r = (n, [], 1501) := by unfold doD; rw [h, if_neg he]
theorem userDo_of {n : NegD} {ev : Int} (h0 : 0 ≤ ev) (h4 : ev ≤ 4) : userDo n ev = doD n (evFix n ev) noRep := by unfold userDo; rw [if_pos ⟨h0, h4⟩]
theorem evFix_other {n : NegD} {ev : Int} (h : ev ≠ 4) : evFix n ev = ev := by unfold evFix; rw [if_neg (by omega)]
theorem actAll_nil (n : NegD) (r : RepD) : actAll n r [] = (n, []) := rfl
theorem actAll_cons (n : NegD) (r : RepD) (a : Int) (ac : List Int) : actAll n r (a :: ac) = ((actAll (actOne n r a).1 r ac).1, (actOne n r a).2 ++ (actAll (actOne n r a).1 r ac).2) := by
  have key : ∀ (ac : List Int) (n : NegD) (ps : List PackD), ac.foldl (fun x a => ((actOne x.1 r a).1, x.2 ++ (actOne x.1 r a).2)) (n, ps) = ((actAll n r ac).1, ps ++ (actAll n r ac).2) := by
    intro ac
    induction ac with
    | nil => intro n ps; simp [actAll]
    | cons b ac ih =>
      intro n ps
      have h1 := ih (actOne n r b).1 (ps ++ (actOne n r b).2)
      have h2 := ih (actOne n r b).1 ([] ++ (actOne n r b).2)
      unfold actAll
      simp only [List.foldl_cons]
      rw [h1, h2]
      simp [List.append_assoc]
  unfold actAll
  simp only [List.foldl_cons]
  rw [key]
  rfl
end Go.Proofs.YthlfghheciamcaaDoor
