/-
  Plain facts on a side: it opens, comes up, asks again, gives up.
  Conditions: none (plain lemmas).
-/
import Derived.Test.YthlfghheciamcaaDoorB1
import Derived.Test.YthlfghheciamcaaDoorT4
namespace Go.Proofs.YthlfghheciamcaaDoor
open Go.RowKit
set_option linter.unusedVariables false

/-- a request goes out -/
def scr (n : NegD) : NegD := { n with left := max 0 (n.left - 1), id := nextI n.id, asked := nextI n.id, os := n.own.ask }
def reqOf (n : NegD) : PackD := ⟨1, nextI n.id, n.own.ask, emptyB⟩

theorem do_open0 {n : NegD} (h : n.state = 0) : userDo n 2 = ({ n with state := 1 }, [], 0) := by
  rw [userDo_of (by decide) (by decide), evFix_other (by decide), doD_of noRep (show stepD n.state 2 = (1, [3], 0) by rw [h]; exact st_0_2)]; rfl
theorem do_up1 {n : NegD} (h : n.state = 1) : userDo n 0 = (scr { n with state := 6, left := n.tries }, [reqOf n], 0) := by
  rw [userDo_of (by decide) (by decide), evFix_other (by decide), doD_of noRep (show stepD n.state 0 = (6, [5, 7], 0) by rw [h]; exact st_1_0)]; rfl
theorem do_more6 {n : NegD} (h : n.state = 6) (hl : n.left ≠ 0) : userDo n 4 = (scr { n with state := 6 }, [reqOf n], 0) := by
  rw [userDo_of (by decide) (by decide), show evFix n 4 = 4 by unfold evFix; rw [if_neg (by omega)], doD_of noRep (show stepD n.state 4 = (6, [7], 0) by rw [h]; exact st_6_4)]; rfl
theorem do_over6 {n : NegD} (h : n.state = 6) (hl : n.left = 0) : userDo n 4 = ({ n with state := 3 }, [], 0) := by
  rw [userDo_of (by decide) (by decide), show evFix n 4 = 5 by unfold evFix; rw [if_pos ⟨rfl, hl⟩], doD_of noRep (show stepD n.state 5 = (3, [4], 0) by rw [h]; exact st_6_5)]; rfl

theorem empty_small : emptyB.size ≤ 140737488351232 := by decide
/-- packets whose options are a link's are well formed -/
theorem putGo_ok : ∀ (os : List OptD) (acc : List UInt8), (∀ o ∈ os, o.data.size ≤ 20) → acc.length + 22 * os.length ≤ 2048 → ∃ l, putGo acc os = some l ∧ l.length ≤ acc.length + 22 * os.length
  | [], acc, _, _ => ⟨acc, rfl, by simp⟩
  | o :: os, acc, hd, hl => by
    have ho := hd o (by simp)
    simp only [List.length_cons] at hl ⊢
    have hf : putFits acc o = true := by simp only [putFits, Bool.and_eq_true, decide_eq_true_eq]; omega
    have hz : (acc ++ optBytes o).length = acc.length + (2 + o.data.size) := by rw [List.length_append, optBytes_length]
    obtain ⟨l, h1, h2⟩ := putGo_ok os (acc ++ optBytes o) (fun x hx => hd x (by simp [hx])) (by rw [hz]; omega)
    refine ⟨l, ?_, by rw [hz] at h2; omega⟩
    simp only [putGo]
    rw [if_pos hf]
    exact h1
theorem optsPut_ok {os : List OptD} (hk : ∀ o ∈ os, 0 ≤ o.kind ∧ o.kind ≤ 255) (hd : ∀ o ∈ os, o.data.size ≤ 20) (hl : os.length ≤ 6) : (optsPut os).2 = 0 ∧ (optsPut os).1.length ≤ 132 := by
  have hb : os.any kindBad = false := by
    rw [List.any_eq_false]
    intro o ho
    have := hk o ho
    simp only [kindBad, Bool.or_eq_true, decide_eq_true_eq]
    omega
  obtain ⟨l, h1, h2⟩ := putGo_ok os [] hd (by simp; omega)
  unfold optsPut
  rw [hb, if_neg (by decide), h1]
  exact ⟨rfl, by simp only [List.length_nil] at h2; show l.length ≤ 132; omega⟩
/-- options that a link asks by, or some of them -/
structure SmallO (os : List OptD) : Prop where
  kind : ∀ o ∈ os, 0 ≤ o.kind ∧ o.kind ≤ 255
  data : ∀ o ∈ os, o.data.size ≤ 20
  len : os.length ≤ 6
theorem put_conf {c i : Int} {os : List OptD} (h : SmallO os) (h1 : 1 ≤ c) (h4 : c ≤ 4) (hi : 0 ≤ i) (hi2 : i ≤ 255) : (controlPut ⟨c, i, os, emptyB⟩).2 = 0 := by
  obtain ⟨ho, hl⟩ := optsPut_ok h.kind h.data h.len
  have hc : confB c = true := by simp only [confB, Bool.and_eq_true, decide_eq_true_eq]; omega
  have h8 : octetB c = true := by simp only [octetB, Bool.and_eq_true, decide_eq_true_eq]; omega
  have h9 : octetB i = true := by simp only [octetB, Bool.and_eq_true, decide_eq_true_eq]; omega
  have he : emptyB.toList.isEmpty = true := by decide +kernel
  have hz : emptyB.size = 0 := rfl
  unfold controlPut
  simp only [h8, h9, ho, hc, he, hz]
  rw [if_neg (by decide), if_neg (by simp), if_neg (by omega)]
theorem put_plain {c i : Int} {d : ByteArray} (hd : d.size ≤ 2044) (h1 : 5 ≤ c) (h4 : c ≤ 255) (hi : 0 ≤ i) (hi2 : i ≤ 255) : (controlPut ⟨c, i, [], d⟩).2 = 0 := by
  have hc : confB c = false := by simp only [confB, Bool.and_eq_false_iff, decide_eq_false_iff_not]; omega
  have h8 : octetB c = true := by simp only [octetB, Bool.and_eq_true, decide_eq_true_eq]; omega
  have h9 : octetB i = true := by simp only [octetB, Bool.and_eq_true, decide_eq_true_eq]; omega
  have ho : optsPut [] = ([], 0) := by decide
  unfold controlPut
  simp only [h8, h9, ho, hc]
  rw [if_neg (by decide), if_neg (by simp), if_neg (by simp; omega)]

theorem opt_small {l : LinkD} (hl : l.may = true) {k : Int} (h : k ∈ kindsL) (ha : l.asks k = true) : 0 ≤ (l.opt k).kind ∧ (l.opt k).kind ≤ 255 ∧ (l.opt k).data.size ≤ 20 := by
  have hr := opt_right hl h ha
  have hk := opt_kind l h
  have hin := in_kinds h
  have hs : (l.opt k).data.size ≤ 20 := by
    simp only [rightB, Bool.or_eq_true, beq_iff_eq, Bool.and_eq_true, decide_eq_true_eq] at hr
    rcases hr with hr | hr
    · rw [hk] at hr
      rcases hin with rfl | rfl | rfl | rfl | rfl | rfl <;> simp [sizeK] at hr <;> omega
    · exact hr.2.2
  rw [hk]
  exact ⟨by omega, by omega, hs⟩
theorem ask_small6 {l : LinkD} (hl : l.may = true) : SmallO l.ask := by
  have e : l.ask = l.askL kindsL := by simp [LinkD.ask, hl]
  rw [e]
  have key : ∀ o ∈ l.askL kindsL, 0 ≤ o.kind ∧ o.kind ≤ 255 ∧ o.data.size ≤ 20 := fun o ho => by
    obtain ⟨k, hk, ha, rfl⟩ := askL_kind l (fun k hk => hk) ho
    exact opt_small hl hk ha
  exact ⟨fun o ho => ⟨(key o ho).1, (key o ho).2.1⟩, fun o ho => (key o ho).2.2, askL_le l kindsL⟩
end Go.Proofs.YthlfghheciamcaaDoor
