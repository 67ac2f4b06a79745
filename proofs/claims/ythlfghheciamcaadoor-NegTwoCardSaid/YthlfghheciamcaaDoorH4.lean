/-
  The contract of event at every packet; of Take.
  Conditions: as each states.
-/
import Derived.Test.YthlfghheciamcaaDoorH3
namespace Go.Proofs.YthlfghheciamcaaDoor
open Go.RowKit
set_option linter.unusedVariables false

def otherEv (code : Int) : Int :=
  if code = 5 then 10 else if code = 6 then 11 else if code = 7 then 13 else if code = 8 then 13 else if code = 9 then 15 else if code = 10 then 15 else if code = 11 then 15 else 12

set_option maxRecDepth 100000 in
set_option maxHeartbeats 2000000 in
theorem event_other (g rb : Nat) (pv ov : Value) (r : RepD) (w : World) (hr : RepAt w rb pv ov r) (h1 : ¬ r.p.code = 1) (h2 : ¬ r.p.code = 2) (h3 : ¬ r.p.code = 3) (h4 : ¬ r.p.code = 4) :
    Calls Tryd.prog 29 #[.pointer (some ⟨g, 0, none⟩), .pointer (some ⟨rb, 0, none⟩)] w fun e w' => e = .returned (.tuple #[.int .i64 (otherEv r.p.code), .bool true]) ∧ w = w' := by
  have r0 : w.cell? ⟨rb, 0, none⟩ = some (.int .i64 r.p.code) := hr.blk.cell 0
  generalize r.p.code = c at *
  have e1 : (c == 1) = false := beq_eq_false_iff_ne.2 h1
  have e2 : (c == 2) = false := beq_eq_false_iff_ne.2 h2
  have e3 : (c == 3) = false := beq_eq_false_iff_ne.2 h3
  have e4 : (c == 4) = false := beq_eq_false_iff_ne.2 h4
  clear hr h1 h2 h3 h4
  by_cases h5 : c = 5
  · subst h5
    go_enter Tryd.func29, Tryd.ntmps29
    go_wp2_with fail
    go_ret2
    exact ⟨rfl, rfl⟩
  by_cases h6 : c = 6
  · subst h6
    go_enter Tryd.func29, Tryd.ntmps29
    go_wp2_with fail
    go_ret2
    exact ⟨rfl, rfl⟩
  by_cases h7 : c = 7
  · subst h7
    go_enter Tryd.func29, Tryd.ntmps29
    go_wp2_with fail
    go_ret2
    exact ⟨rfl, rfl⟩
  by_cases h8 : c = 8
  · subst h8
    go_enter Tryd.func29, Tryd.ntmps29
    go_wp2_with fail
    go_ret2
    exact ⟨rfl, rfl⟩
  by_cases h9 : c = 9
  · subst h9
    go_enter Tryd.func29, Tryd.ntmps29
    go_wp2_with fail
    go_ret2
    exact ⟨rfl, rfl⟩
  by_cases h10 : c = 10
  · subst h10
    go_enter Tryd.func29, Tryd.ntmps29
    go_wp2_with fail
    go_ret2
    exact ⟨rfl, rfl⟩
  by_cases h11 : c = 11
  · subst h11
    go_enter Tryd.func29, Tryd.ntmps29
    go_wp2_with fail
    go_ret2
    exact ⟨rfl, rfl⟩
  have e5 : (c == 5) = false := beq_eq_false_iff_ne.2 h5
  have e6 : (c == 6) = false := beq_eq_false_iff_ne.2 h6
  have e7 : (c == 7) = false := beq_eq_false_iff_ne.2 h7
  have e8 : (c == 8) = false := beq_eq_false_iff_ne.2 h8
  have e9 : (c == 9) = false := beq_eq_false_iff_ne.2 h9
  have e10 : (c == 10) = false := beq_eq_false_iff_ne.2 h10
  have e11 : (c == 11) = false := beq_eq_false_iff_ne.2 h11
  have HO := Lib.hid (show otherEv c = 12 by unfold otherEv; rw [if_neg h5, if_neg h6, if_neg h7, if_neg h8, if_neg h9, if_neg h10, if_neg h11])
  clear h5 h6 h7 h8 h9 h10 h11
  go_enter Tryd.func29, Tryd.ntmps29
  go_wp2_with fail
  go_ret2
  exact ⟨by rw [HO.out]; rfl, rfl⟩

theorem eventD_req {n : NegD} {r : RepD} (h : r.p.code = 1) : eventD n r = (n, judged n r, if (judgeD n.own r.p.opts).1 = 0 then 6 else 7, true) := by unfold eventD; rw [if_pos h]
theorem eventD_ack {n : NegD} {r : RepD} (h : r.p.code = 2) : eventD n r = (n, r, 8, r.p.id == n.asked && decide (r.p.opts = n.os)) := by unfold eventD; rw [if_neg (by omega), if_pos h]
theorem eventD_nak {n : NegD} {r : RepD} (h : r.p.code = 3 ∨ r.p.code = 4) (hi : r.p.id = n.asked) : eventD n r = ({ n with own := (learnD n.own r.p.code r.p.opts).1 }, r, 9, true) := by
  unfold eventD; rw [if_neg (by omega), if_neg (by omega), if_pos h, if_pos hi]
theorem eventD_no {n : NegD} {r : RepD} (h : r.p.code = 3 ∨ r.p.code = 4) (hi : ¬ r.p.id = n.asked) : eventD n r = (n, r, 0, false) := by
  unfold eventD; rw [if_neg (by omega), if_neg (by omega), if_pos h, if_neg hi]
theorem eventD_other {n : NegD} {r : RepD} (h1 : ¬ r.p.code = 1) (h2 : ¬ r.p.code = 2) (h3 : ¬ r.p.code = 3) (h4 : ¬ r.p.code = 4) : eventD n r = (n, r, otherEv r.p.code, true) := by
  unfold eventD otherEv
  rw [if_neg h1, if_neg h2, if_neg (by omega)]
  by_cases h5 : r.p.code = 5
  · rw [if_pos h5, if_pos h5]
  rw [if_neg h5, if_neg h5]
  by_cases h6 : r.p.code = 6
  · rw [if_pos h6, if_pos h6]
  rw [if_neg h6, if_neg h6]
  by_cases h7 : r.p.code = 7
  · rw [if_pos (.inl h7), if_pos h7]
  rw [if_neg h7]
  by_cases h8 : r.p.code = 8
  · rw [if_pos (.inr h8), if_pos h8]
  rw [if_neg (by omega), if_neg h8]
  by_cases h9 : r.p.code = 9
  · rw [if_pos (.inl h9), if_pos h9]
  rw [if_neg h9]
  by_cases h10 : r.p.code = 10
  · rw [if_pos (.inr (.inl h10)), if_pos h10]
  rw [if_neg h10]
  by_cases h11 : r.p.code = 11
  · rw [if_pos (.inr (.inr h11)), if_pos h11]
  rw [if_neg (by omega), if_neg h11]

theorem event_any (wc w : World) (g t rb : Nat) (v pv ov : Value) (n : NegD) (r : RepD) (h : NegTo wc w g t v n) (hr : RepAt w rb pv ov r) (hrb : wc.heap.size ≤ rb) (hgc : g < wc.heap.size) :
    Calls Tryd.prog 29 #[.pointer (some ⟨g, 0, none⟩), .pointer (some ⟨rb, 0, none⟩)] w fun e w' =>
      e = .returned (.tuple #[.int .i64 (eventD n r).2.2.1, .bool (eventD n r).2.2.2]) ∧ Evented wc w' g t rb v pv (eventD n r).1 (eventD n r).2.1 := by
  by_cases h1 : r.p.code = 1
  · rw [eventD_req h1]
    exact event_req wc w g t rb v pv ov n r h hr hrb hgc h1 _ rfl _ rfl _ rfl
  by_cases h2 : r.p.code = 2
  · rw [eventD_ack h2]
    refine (event_ack g t rb v pv ov n r w h.at_ hr h2).mono ?_
    rintro e w' ⟨rfl, hb⟩
    exact ⟨rfl, h.below hb, ov, hr.below hb⟩
  by_cases h34 : r.p.code = 3 ∨ r.p.code = 4
  · cases hi : (r.p.id != n.asked) with
    | true =>
      rw [eventD_no h34 (by simpa using hi)]
      rcases h34 with h3 | h4
      · refine (event_no_3 g t rb v pv ov n r w h.at_ hr h3 hi).mono ?_
        rintro e w' ⟨rfl, hb⟩
        exact ⟨rfl, h.below hb, ov, hr.below hb⟩
      · refine (event_no_4 g t rb v pv ov n r w h.at_ hr h4 hi).mono ?_
        rintro e w' ⟨rfl, hb⟩
        exact ⟨rfl, h.below hb, ov, hr.below hb⟩
    | false =>
      rw [eventD_nak h34 (by simpa using hi)]
      rcases h34 with h3 | h4
      · rw [h3]; exact event_nak_3 wc w g t rb v pv ov n r h hr h3 hi
      · rw [h4]; exact event_nak_4 wc w g t rb v pv ov n r h hr h4 hi
  rw [eventD_other h1 h2 (fun e => h34 (.inl e)) (fun e => h34 (.inr e))]
  refine (event_other g rb pv ov r w hr h1 h2 (fun e => h34 (.inl e)) (fun e => h34 (.inr e))).mono ?_
  rintro e w' ⟨rfl, rfl⟩
  exact ⟨rfl, h, ov, hr⟩

theorem eventD_range (n : NegD) (r : RepD) : 0 ≤ (eventD n r).2.2.1 ∧ (eventD n r).2.2.1 < 16 := by
  unfold eventD
  repeat (first | (split <;> (try (exact ⟨by simp only; omega, by simp only; omega⟩))))
  all_goals (simp only; split <;> omega)
theorem eventD_state (n : NegD) (r : RepD) : (eventD n r).1.state = n.state := by
  unfold eventD
  repeat (first | rfl | split)
end Go.Proofs.YthlfghheciamcaaDoor
