/-
  Plain facts on two sides whose packets come one by one, in whatever order of the two ways.
  Conditions: none (plain lemmas).
-/
import Derived.Test.YthlfghheciamcaaDoorY4
namespace Go.Proofs.YthlfghheciamcaaDoor
open Go.RowKit
set_option linter.unusedVariables false

/-- what each side takes, in its order; ax j: so many packets for x have been sent once y has taken j -/
structure Flow where
  xs : Nat → NegD
  ys : Nat → NegD
  inX : List PackD
  inY : List PackD
  ax : Nat → Nat
  ay : Nat → Nat
def Flow.wx (F : Flow) (i j : Nat) : List PackD := (F.inX.take (F.ax j)).drop i
def Flow.wy (F : Flow) (i j : Nat) : List PackD := (F.inY.take (F.ay i)).drop j
structure Flows (F : Flow) : Prop where
  takeX : ∀ i (h : i < F.inX.length), takeD (F.xs i) (F.inX[i]'h) = (F.xs (i + 1), (F.inY.take (F.ay (i + 1))).drop (F.ay i), 0)
  takeY : ∀ j (h : j < F.inY.length), takeD (F.ys j) (F.inY[j]'h) = (F.ys (j + 1), (F.inX.take (F.ax (j + 1))).drop (F.ax j), 0)
  monoX : ∀ j, F.ax j ≤ F.ax (j + 1)
  monoY : ∀ i, F.ay i ≤ F.ay (i + 1)
  lenX : ∀ j, F.ax j ≤ F.inX.length
  lenY : ∀ i, F.ay i ≤ F.inY.length
  stop : ∀ i j, i ≤ F.inX.length → j ≤ F.inY.length → i = F.ax j → j = F.ay i → i = F.inX.length ∧ j = F.inY.length
  manyX : F.inX.length ≤ 4
  manyY : F.inY.length ≤ 4
  fitX : ∀ p ∈ F.inX, PackFit p
  fitY : ∀ p ∈ F.inY, PackFit p
def Flow.swap (F : Flow) : Flow := ⟨F.ys, F.xs, F.inY, F.inX, F.ay, F.ax⟩
theorem Flows.swap {F : Flow} (h : Flows F) : Flows F.swap :=
  ⟨h.takeY, h.takeX, h.monoY, h.monoX, h.lenY, h.lenX, fun i j hi hj h1 h2 => (h.stop j i hj hi h2 h1).symm, h.manyY, h.manyX, h.fitY, h.fitX⟩

theorem wire_head (l : List PackD) (a i : Nat) (h : i < a) (ha : a ≤ l.length) : (l.take a).drop i = (l[i]'(by omega)) :: (l.take a).drop (i + 1) := by
  rw [List.drop_eq_getElem_cons (by simp; omega)]
  simp
theorem wire_more (l : List PackD) (a b j : Nat) (hj : j ≤ a) (hab : a ≤ b) (hb : b ≤ l.length) : (l.take a).drop j ++ (l.take b).drop a = (l.take b).drop j := by
  have e : l.take b = l.take a ++ (l.take b).drop a := by
    conv => lhs; rw [← List.take_append_drop a (l.take b)]
    rw [List.take_take, Nat.min_eq_left hab]
  conv => rhs; rw [e]
  rw [List.drop_append_of_le_length (by simp; omega)]
theorem wire_len (l : List PackD) (a i : Nat) (ha : a ≤ l.length) : ((l.take a).drop i).length = a - i := by simp; omega

/-- a side that has just asked (10 tries) -/
def askX (a : LinkD) : NegD := scr { newD a 10 with state := 6, left := 10 }
/-- both are open, and each has what the other asked for -/
structure Ended (x y : NegD) : Prop where
  sx : x.state = 9
  sy : y.state = 9
  xy : x.other = y.own
  yx : y.other = x.own
structure FlowsTo (a b : LinkD) (F : Flow) : Prop where
  flows : Flows F
  x0 : F.xs 0 = askX a
  y0 : F.ys 0 = askX b
  wx0 : F.wx 0 0 = [req1 b]
  wy0 : F.wy 0 0 = [req1 a]
  ended : Ended (F.xs F.inX.length) (F.ys F.inY.length)
theorem FlowsTo.swap {a b : LinkD} {F : Flow} (h : FlowsTo a b F) : FlowsTo b a F.swap :=
  ⟨h.flows.swap, h.y0, h.x0, h.wy0, h.wx0, h.ended.sy, h.ended.sx, h.ended.yx, h.ended.xy⟩

/-- neither side refuses -/
def flowN (a b : LinkD) : Flow where
  xs := fun i => match i with
    | 0 => askX a
    | 1 => { askX a with state := 8, other := b }
    | _ => { askX a with state := 9, other := b, left := 10 }
  ys := fun i => match i with
    | 0 => askX b
    | 1 => { askX b with state := 8, other := a }
    | _ => { askX b with state := 9, other := a, left := 10 }
  inX := [req1 b, ⟨2, 1, a.ask, emptyB⟩]
  inY := [req1 a, ⟨2, 1, b.ask, emptyB⟩]
  ax := fun j => match j with
    | 0 => 1
    | _ => 2
  ay := fun j => match j with
    | 0 => 1
    | _ => 2
theorem flows_n {a b : LinkD} (ha : a.may = true) (hb : b.may = true) (hm : magOk a b) (hm2 : magOk b a) (hs : (a.short && !b.short) = false) (hs2 : (b.short && !a.short) = false) : FlowsTo a b (flowN a b) := by
  have sa := ask_small6 ha
  have sb := ask_small6 hb
  have t1 := req_good6 (n := askX b) (i := 1) sa (by omega) (by omega) rfl (judge_good ha hb hm hs)
  have t2 := req_good6 (n := askX a) (i := 1) sb (by omega) (by omega) rfl (judge_good hb ha hm2 hs2)
  rw [taken_ask ha] at t1
  rw [taken_ask hb] at t2
  have t3 := ack_8 (n := { askX b with state := 8, other := a }) sb rfl (show (0:Int) ≤ 1 by omega) (show (1:Int) ≤ 255 by omega)
  have t4 := ack_8 (n := { askX a with state := 8, other := b }) sa rfl (show (0:Int) ≤ 1 by omega) (show (1:Int) ≤ 255 by omega)
  refine ⟨⟨?_, ?_, ?_, ?_, ?_, ?_, ?_, by simp [flowN], by simp [flowN], ?_, ?_⟩, rfl, rfl, rfl, rfl, rfl, rfl, rfl, rfl⟩
  · intro i hi
    match i, hi with
    | 0, _ => exact t2
    | 1, _ => exact t4
  · intro i hi
    match i, hi with
    | 0, _ => exact t1
    | 1, _ => exact t3
  · intro j; match j with
    | 0 => simp [flowN]
    | j + 1 => exact Nat.le_refl _
  · intro j; match j with
    | 0 => simp [flowN]
    | j + 1 => exact Nat.le_refl _
  · intro j; match j with
    | 0 => simp [flowN]
    | j + 1 => simp [flowN]
  · intro j; match j with
    | 0 => simp [flowN]
    | j + 1 => simp [flowN]
  · intro i j hi hj h1 h2
    simp only [flowN, List.length_cons, List.length_nil] at hi hj ⊢
    match i, j, hi, hj with
    | 0, 0, _, _ => cases h1
    | 0, 1, _, _ => cases h1
    | 0, 2, _, _ => cases h1
    | 1, 0, _, _ => cases h2
    | 1, 1, _, _ => cases h1
    | 1, 2, _, _ => cases h1
    | 2, 0, _, _ => cases h1
    | 2, 1, _, _ => cases h2
    | 2, 2, _, _ => exact ⟨rfl, rfl⟩
  · intro p hp
    simp only [flowN, List.mem_cons, List.not_mem_nil, or_false] at hp
    rcases hp with rfl | rfl
    · exact fit_small sb
    · exact fit_small sa
  · intro p hp
    simp only [flowN, List.mem_cons, List.not_mem_nil, or_false] at hp
    rcases hp with rfl | rfl
    · exact fit_small sa
    · exact fit_small sb

/-- a is refused its short heads -/
def flowA (a b : LinkD) : Flow where
  xs := fun i => match i with
    | 0 => askX a
    | 1 => { askX a with state := 8, other := b }
    | 2 => scr { askX a with state := 8, other := b, own := noSh a, left := 10 }
    | _ => { scr { askX a with state := 8, other := b, own := noSh a, left := 10 } with state := 9, left := 10 }
  ys := fun i => match i with
    | 0 => askX b
    | 1 => { askX b with state := 6 }
    | 2 => { askX b with state := 7, left := 10 }
    | _ => { askX b with state := 9, left := 10, other := noSh a }
  inX := [req1 b, ⟨4, 1, [shO], emptyB⟩, ⟨2, 2, (noSh a).ask, emptyB⟩]
  inY := [req1 a, ⟨2, 1, b.ask, emptyB⟩, ⟨1, 2, (noSh a).ask, emptyB⟩]
  ax := fun j => match j with
    | 0 => 1
    | 1 => 2
    | 2 => 2
    | _ => 3
  ay := fun i => match i with
    | 0 => 1
    | 1 => 2
    | _ => 3
theorem flows_a {a b : LinkD} (ha : a.may = true) (hb : b.may = true) (hm : magOk a b) (hm2 : magOk b a) (hs : (a.short && !b.short) = true) : FlowsTo a b (flowA a b) := by
  have hsa : a.short = true := (Bool.and_eq_true_iff.1 hs).1
  have hsb : b.short = false := by have := (Bool.and_eq_true_iff.1 hs).2; simpa using this
  have hna : (noSh a).may = true := may_short ha
  have sa := ask_small6 ha
  have sb := ask_small6 hb
  have sn := ask_small6 hna
  have t1 := req_bad6 (n := askX b) (i := 1) sa (by omega) (by omega) rfl (judge_bad ha hb hs)
  have t2 := req_good6 (n := askX a) (i := 1) sb (by omega) (by omega) rfl (judge_good hb ha hm2 (by rw [hsb]; rfl))
  rw [taken_ask hb] at t2
  have t3 := take_ack6 (n := { askX b with state := 6 }) sb rfl (show (0:Int) ≤ 1 by omega) (show (1:Int) ≤ 255 by omega)
  have t4 := rej_8 (n := { askX a with state := 8, other := b }) sh_small rfl (show (0:Int) ≤ 1 by omega) (show (1:Int) ≤ 255 by omega)
  rw [show learnD ({ askX a with state := 8, other := b } : NegD).own 4 [shO] = (noSh a, 0) from learn_short ha hsa] at t4
  have t5 := req_good7 (n := { askX b with state := 7, left := 10 }) (i := 2) sn (by omega) (by omega) rfl (judge_good hna hb hm (by rfl))
  rw [taken_ask hna] at t5
  have t6 := ack_8 (n := scr { askX a with state := 8, other := b, own := noSh a, left := 10 }) sn rfl (show (0:Int) ≤ 2 by omega) (show (2:Int) ≤ 255 by omega)
  refine ⟨⟨?_, ?_, ?_, ?_, ?_, ?_, ?_, by simp [flowA], by simp [flowA], ?_, ?_⟩, rfl, rfl, rfl, rfl, rfl, rfl, rfl, rfl⟩
  · intro i hi
    match i, hi with
    | 0, _ => exact t2
    | 1, _ => exact t4
    | 2, _ => exact t6
  · intro i hi
    match i, hi with
    | 0, _ => exact t1
    | 1, _ => exact t3
    | 2, _ => exact t5
  · intro j; match j with
    | 0 => simp [flowA]
    | 1 => simp [flowA]
    | 2 => simp [flowA]
    | j + 3 => exact Nat.le_refl _
  · intro j; match j with
    | 0 => simp [flowA]
    | 1 => simp [flowA]
    | j + 2 => exact Nat.le_refl _
  · intro j; match j with
    | 0 => simp [flowA]
    | 1 => simp [flowA]
    | 2 => simp [flowA]
    | j + 3 => simp [flowA]
  · intro j; match j with
    | 0 => simp [flowA]
    | 1 => simp [flowA]
    | j + 2 => simp [flowA]
  · intro i j hi hj h1 h2
    simp only [flowA, List.length_cons, List.length_nil] at hi hj ⊢
    match j, hj with
    | 0, _ => 
      have : i = 1 := h1
      subst this
      cases h2
    | 1, _ =>
      have : i = 2 := h1
      subst this
      cases h2
    | 2, _ =>
      have : i = 2 := h1
      subst this
      cases h2
    | 3, _ =>
      have : i = 3 := h1
      subst this
      exact ⟨rfl, rfl⟩
  · intro p hp
    simp only [flowA, List.mem_cons, List.not_mem_nil, or_false] at hp
    rcases hp with rfl | rfl | rfl
    · exact fit_small sb
    · exact fit_small sh_small
    · exact fit_small sn
  · intro p hp
    simp only [flowA, List.mem_cons, List.not_mem_nil, or_false] at hp
    rcases hp with rfl | rfl | rfl
    · exact fit_small sa
    · exact fit_small sb
    · exact fit_small sn

theorem flows_any {a b : LinkD} (ha : a.may = true) (hb : b.may = true) (hm : magOk a b) (hm2 : magOk b a) : ∃ F, FlowsTo a b F := by
  cases hs : (a.short && !b.short) with
  | true => exact ⟨_, flows_a ha hb hm hm2 hs⟩
  | false =>
    cases hs2 : (b.short && !a.short) with
    | true => exact ⟨_, (flows_a hb ha hm2 hm hs2).swap⟩
    | false => exact ⟨_, flows_n ha hb hm hm2 hs hs2⟩

theorem open_newX (a : LinkD) : userDo (newD a 10) 2 = ({ newD a 10 with state := 1 }, [], 0) := do_open0 rfl
theorem up_newX (a : LinkD) : userDo { newD a 10 with state := 1 } 0 = (askX a, [req1 a], 0) := (do_up1 rfl).trans rfl
end Go.Proofs.YthlfghheciamcaaDoor
