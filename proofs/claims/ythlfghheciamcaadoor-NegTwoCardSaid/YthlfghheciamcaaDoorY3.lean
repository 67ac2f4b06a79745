/-
  Plain facts on two sides: requests, acks, refusals, and how two sides come to be open.
  Conditions: none (plain lemmas).
-/
import Derived.Test.YthlfghheciamcaaDoorY2
namespace Go.Proofs.YthlfghheciamcaaDoor
open Go.RowKit
set_option linter.unusedVariables false

def takeAll (n : NegD) (ps : List PackD) : NegD × List PackD := ps.foldl (fun x p => ((takeD x.1 p).1, x.2 ++ (takeD x.1 p).2.1)) (n, [])
theorem takeAll_nil (n : NegD) : takeAll n [] = (n, []) := rfl
theorem takeAll_snoc (n : NegD) (ps : List PackD) (p : PackD) : takeAll n (ps ++ [p]) = ((takeD (takeAll n ps).1 p).1, (takeAll n ps).2 ++ (takeD (takeAll n ps).1 p).2.1) := by
  unfold takeAll; rw [List.foldl_append]; rfl
theorem takeAll_one {n n' : NegD} {p : PackD} {qs : List PackD} {e : Int} (h : takeD n p = (n', qs, e)) : takeAll n [p] = (n', qs) := by
  unfold takeAll; simp only [List.foldl_cons, List.foldl_nil, List.nil_append]; rw [h]
theorem takeAll_two {n n1 n2 : NegD} {p q : PackD} {qs rs : List PackD} {e f : Int} (h : takeD n p = (n1, qs, e)) (h2 : takeD n1 q = (n2, rs, f)) : takeAll n [p, q] = (n2, qs ++ rs) := by
  unfold takeAll; simp only [List.foldl_cons, List.foldl_nil, List.nil_append]; rw [h]; simp only; rw [h2]
theorem takeAll_step (n : NegD) (ps : List PackD) (k : Nat) (h : k < ps.length) : takeAll n (ps.take (k + 1)) = ((takeD (takeAll n (ps.take k)).1 (ps[k]'h)).1, (takeAll n (ps.take k)).2 ++ (takeD (takeAll n (ps.take k)).1 (ps[k]'h)).2.1) := by
  rw [show ps.take (k + 1) = ps.take k ++ [ps[k]'h] by rw [List.take_add_one, List.getElem?_eq_getElem h]; rfl, takeAll_snoc]

structure PackFit (p : PackD) : Prop where
  len : p.opts.length ≤ 2048
  opts : ∀ o ∈ p.opts, o.data.size ≤ 140737488351232
  data : p.data.size ≤ 140737488351232
theorem fit_small {c i : Int} {os : List OptD} (h : SmallO os) : PackFit ⟨c, i, os, emptyB⟩ := ⟨by have := h.len; show os.length ≤ 2048; omega, fun o ho => by have := h.data o ho; omega, empty_small⟩

theorem take_req {n : NegD} {i : Int} {os : List OptD} (h : SmallO os) (hi : 0 ≤ i) (hi2 : i ≤ 255) (h0 : ¬ n.state = 0) (h1 : ¬ n.state = 1) :
    takeD n ⟨1, i, os, emptyB⟩ = doD n (if (judgeD n.own os).1 = 0 then 6 else 7) (judged n (repOf ⟨1, i, os, emptyB⟩)) := by
  have hp := put_conf (c := 1) (i := i) h (by omega) (by omega) hi hi2
  unfold takeD
  rw [if_neg (by rw [hp]; simp), if_neg (by omega), eventD_req (r := repOf ⟨1, i, os, emptyB⟩) rfl]
  rfl
theorem req_good6 {n : NegD} {i : Int} {os : List OptD} (h : SmallO os) (hi : 0 ≤ i) (hi2 : i ≤ 255) (hs : n.state = 6) (hj : judgeD n.own os = (0, os, 0)) :
    takeD n ⟨1, i, os, emptyB⟩ = ({ n with state := 8, other := (takenD os).1 }, [⟨2, i, os, emptyB⟩], 0) := by
  rw [take_req h hi hi2 (by omega) (by omega), hj, if_pos rfl]
  refine (doD_of (n := n) (ev := 6) (nx := 8) (acts := [8]) _ (show stepD n.state 6 = _ by rw [hs]; exact st_6_6)).trans ?_
  simp only [judged, repOf, hj]
  rfl
theorem req_good7 {n : NegD} {i : Int} {os : List OptD} (h : SmallO os) (hi : 0 ≤ i) (hi2 : i ≤ 255) (hs : n.state = 7) (hj : judgeD n.own os = (0, os, 0)) :
    takeD n ⟨1, i, os, emptyB⟩ = ({ n with state := 9, other := (takenD os).1 }, [⟨2, i, os, emptyB⟩], 0) := by
  rw [take_req h hi hi2 (by omega) (by omega), hj, if_pos rfl]
  refine (doD_of (n := n) (ev := 6) (nx := 9) (acts := [8, 1]) _ (show stepD n.state 6 = _ by rw [hs]; exact st_7_6)).trans ?_
  simp only [judged, repOf, hj]
  rfl
theorem req_good9 {n : NegD} {i : Int} {os : List OptD} (h : SmallO os) (hi : 0 ≤ i) (hi2 : i ≤ 255) (hs : n.state = 9) (hj : judgeD n.own os = (0, os, 0)) :
    takeD n ⟨1, i, os, emptyB⟩ = ({ scr { n with state := 8 } with other := (takenD os).1 }, [reqOf n, ⟨2, i, os, emptyB⟩], 0) := by
  rw [take_req h hi hi2 (by omega) (by omega), hj, if_pos rfl]
  refine (doD_of (n := n) (ev := 6) (nx := 8) (acts := [2, 7, 8]) _ (show stepD n.state 6 = _ by rw [hs]; exact st_9_6)).trans ?_
  simp only [judged, repOf, hj]
  rfl
theorem req_bad6 {n : NegD} {i : Int} {os bad : List OptD} (h : SmallO os) (hi : 0 ≤ i) (hi2 : i ≤ 255) (hs : n.state = 6) (hj : judgeD n.own os = (2, bad, 0)) :
    takeD n ⟨1, i, os, emptyB⟩ = ({ n with state := 6 }, [⟨4, i, bad, emptyB⟩], 0) := by
  rw [take_req h hi hi2 (by omega) (by omega), hj, if_neg (by simp)]
  refine (doD_of (n := n) (ev := 7) (nx := 6) (acts := [9]) _ (show stepD n.state 7 = _ by rw [hs]; exact st_6_7)).trans ?_
  simp only [judged, repOf, hj]
  rfl
theorem take_ack {n : NegD} (h : SmallO n.os) (h0 : ¬ n.state = 0) (h1 : ¬ n.state = 1) (ha : 0 ≤ n.asked) (ha2 : n.asked ≤ 255) : takeD n ⟨2, n.asked, n.os, emptyB⟩ = doD n 8 (repOf ⟨2, n.asked, n.os, emptyB⟩) := by
  have hp := put_conf (c := 2) (i := n.asked) h (by omega) (by omega) ha ha2
  unfold takeD
  rw [if_neg (by rw [hp]; simp), if_neg (by omega), eventD_ack (r := repOf ⟨2, n.asked, n.os, emptyB⟩) rfl]
  simp only
  rw [if_pos (by simp [repOf])]
theorem ack_8 {n : NegD} (h : SmallO n.os) (hs : n.state = 8) (ha : 0 ≤ n.asked) (ha2 : n.asked ≤ 255) : takeD n ⟨2, n.asked, n.os, emptyB⟩ = ({ n with state := 9, left := n.tries }, [], 0) := by
  rw [take_ack h (by omega) (by omega) ha ha2]
  exact (doD_of (n := n) (ev := 8) (nx := 9) (acts := [5, 1]) _ (show stepD n.state 8 = _ by rw [hs]; exact st_8_8)).trans rfl
theorem rej_8 {n : NegD} {os : List OptD} (h : SmallO os) (hs : n.state = 8) (ha : 0 ≤ n.asked) (ha2 : n.asked ≤ 255) :
    takeD n ⟨4, n.asked, os, emptyB⟩ = (scr { n with own := (learnD n.own 4 os).1, state := 8, left := n.tries }, [reqOf { n with own := (learnD n.own 4 os).1 }], 0) := by
  have hp := put_conf (c := 4) (i := n.asked) h (by omega) (by omega) ha ha2
  unfold takeD
  rw [if_neg (by rw [hp]; simp), if_neg (by omega), eventD_nak (r := repOf ⟨4, n.asked, os, emptyB⟩) (.inr rfl) rfl]
  simp only
  rw [if_pos trivial]
  exact (doD_of (n := { n with own := (learnD n.own 4 os).1 }) (ev := 9) (nx := 8) (acts := [5, 7]) (repOf ⟨4, n.asked, os, emptyB⟩) (show stepD n.state 9 = _ by rw [hs]; exact st_8_9)).trans rfl

def shO : OptD := ⟨18, ⟨#[]⟩⟩
theorem sh_small : SmallO [shO] := ⟨fun o ho => by simp at ho; subst ho; decide, fun o ho => by simp at ho; subst ho; decide, by decide⟩
/-- may two links' sides settle? -/
def magOk (a b : LinkD) : Prop := a.magic ≠ 0 → a.magic ≠ b.magic
theorem mag_false {a b : LinkD} (h : magOk a b) : magicB b a = false := by
  unfold magicB
  cases hm : (a.magic != 0) with
  | false => simp
  | true => have := h (by simpa using hm); simpa using this
theorem judge_good {a b : LinkD} (ha : a.may = true) (hb : b.may = true) (hm : magOk a b) (hs : (a.short && !b.short) = false) : judgeD b a.ask = (0, a.ask, 0) := by
  rw [judge_ask hb ha, hs, mag_false hm]; rfl
theorem judge_bad {a b : LinkD} (ha : a.may = true) (hb : b.may = true) (hs : (a.short && !b.short) = true) : judgeD b a.ask = (2, [shO], 0) := by
  rw [judge_ask hb ha, hs]; rfl

/-- a side that has just asked -/
def askd (a : LinkD) : NegD := scr { newD a 8 with state := 6, left := 8 }
def req1 (a : LinkD) : PackD := ⟨1, 1, a.ask, emptyB⟩
/-- a link without what the other side has no right to -/
def meet (a b : LinkD) : LinkD := { a with short := a.short && b.short }
structure Opened (n : NegD) (l m : LinkD) : Prop where
  state : n.state = 9
  own : n.own = l
  other : n.other = m
  tries : n.tries = 8
theorem meet_may {a : LinkD} (b : LinkD) (h : a.may = true) : (meet a b).may = true := by
  have e : (meet a b).may = a.may := rfl
  rw [e]; exact h

/-- the two sides' exchange, round by round -/
structure Round where
  x : NegD
  y : NegD
  toX : List PackD
  toY : List PackD
structure Runs (S : Nat → Round) (R : Nat) : Prop where
  stepY : ∀ i, i < R → takeAll (S i).y (S i).toY = ((S (i + 1)).y, (S (i + 1)).toX)
  stepX : ∀ i, i < R → takeAll (S i).x (S i).toX = ((S (i + 1)).x, (S (i + 1)).toY)
  some : ∀ i, i < R → 0 < (S i).toX.length + (S i).toY.length
  endX : (S R).toX = []
  endY : (S R).toY = []
  fitX : ∀ i, i ≤ R → ∀ p ∈ (S i).toX, PackFit p
  fitY : ∀ i, i ≤ R → ∀ p ∈ (S i).toY, PackFit p
  lenX : ∀ i, i ≤ R → (S i).toX.length ≤ 10
  lenY : ∀ i, i ≤ R → (S i).toY.length ≤ 10
  many : R ≤ 30

theorem askd_facts (a : LinkD) : (askd a).state = 6 ∧ (askd a).own = a ∧ (askd a).asked = 1 ∧ (askd a).os = a.ask ∧ (askd a).id = 1 ∧ (askd a).tries = 8 ∧ (askd a).left = 7 := ⟨rfl, rfl, rfl, rfl, rfl, rfl, rfl⟩

/-- neither side refuses -/
def runN (a b : LinkD) : Nat → Round
  | 0 => ⟨askd a, askd b, [req1 b], [req1 a]⟩
  | 1 => ⟨{ askd a with state := 8, other := b }, { askd b with state := 8, other := a }, [⟨2, 1, a.ask, emptyB⟩], [⟨2, 1, b.ask, emptyB⟩]⟩
  | _ => ⟨{ askd a with state := 9, other := b, left := 8 }, { askd b with state := 9, other := a, left := 8 }, [], []⟩
theorem runs_n {a b : LinkD} (ha : a.may = true) (hb : b.may = true) (hm : magOk a b) (hm2 : magOk b a) (hs : (a.short && !b.short) = false) (hs2 : (b.short && !a.short) = false) : Runs (runN a b) 2 := by
  have sa := ask_small6 ha
  have sb := ask_small6 hb
  have t1 := req_good6 (n := askd b) (i := 1) sa (by omega) (by omega) rfl (judge_good ha hb hm hs)
  have t2 := req_good6 (n := askd a) (i := 1) sb (by omega) (by omega) rfl (judge_good hb ha hm2 hs2)
  rw [taken_ask ha] at t1
  rw [taken_ask hb] at t2
  have t3 := ack_8 (n := { askd b with state := 8, other := a }) sb rfl (show (0:Int) ≤ _ from by first | exact (show (0:Int) ≤ 1 by omega) | exact (show (0:Int) ≤ 2 by omega)) (show _ ≤ (255:Int) from by first | exact (show (1:Int) ≤ 255 by omega) | exact (show (2:Int) ≤ 255 by omega))
  have t4 := ack_8 (n := { askd a with state := 8, other := b }) sa rfl (show (0:Int) ≤ _ from by first | exact (show (0:Int) ≤ 1 by omega) | exact (show (0:Int) ≤ 2 by omega)) (show _ ≤ (255:Int) from by first | exact (show (1:Int) ≤ 255 by omega) | exact (show (2:Int) ≤ 255 by omega))
  refine ⟨?_, ?_, ?_, rfl, rfl, ?_, ?_, ?_, ?_, by omega⟩
  · intro i hi
    match i, hi with
    | 0, _ => exact takeAll_one t1
    | 1, _ => exact takeAll_one t3
  · intro i hi
    match i, hi with
    | 0, _ => exact takeAll_one t2
    | 1, _ => exact takeAll_one t4
  · intro i hi
    match i, hi with
    | 0, _ => simp [runN]
    | 1, _ => simp [runN]
  · intro i hi p hp
    match i, hi with
    | 0, _ => simp [runN] at hp; subst hp; exact fit_small sb
    | 1, _ => simp [runN] at hp; subst hp; exact fit_small sa
    | 2, _ => simp [runN] at hp
  · intro i hi p hp
    match i, hi with
    | 0, _ => simp [runN] at hp; subst hp; exact fit_small sa
    | 1, _ => simp [runN] at hp; subst hp; exact fit_small sb
    | 2, _ => simp [runN] at hp
  · intro i hi
    match i, hi with
    | 0, _ => simp [runN]
    | 1, _ => simp [runN]
    | 2, _ => simp [runN]
  · intro i hi
    match i, hi with
    | 0, _ => simp [runN]
    | 1, _ => simp [runN]
    | 2, _ => simp [runN]

/-- a is refused its short heads -/
def noSh (a : LinkD) : LinkD := { a with short := false }
def runA (a b : LinkD) : Nat → Round
  | 0 => ⟨askd a, askd b, [req1 b], [req1 a]⟩
  | 1 => ⟨{ askd a with state := 8, other := b }, { askd b with state := 6 }, [⟨4, 1, [shO], emptyB⟩], [⟨2, 1, b.ask, emptyB⟩]⟩
  | 2 => ⟨scr { askd a with state := 8, other := b, own := noSh a, left := 8 }, { askd b with state := 7, left := 8 }, [], [⟨1, 2, (noSh a).ask, emptyB⟩]⟩
  | 3 => ⟨scr { askd a with state := 8, other := b, own := noSh a, left := 8 }, { askd b with state := 9, left := 8, other := noSh a }, [⟨2, 2, (noSh a).ask, emptyB⟩], []⟩
  | _ => ⟨{ scr { askd a with state := 8, other := b, own := noSh a, left := 8 } with state := 9, left := 8 }, { askd b with state := 9, left := 8, other := noSh a }, [], []⟩
theorem runs_a {a b : LinkD} (ha : a.may = true) (hb : b.may = true) (hm : magOk a b) (hm2 : magOk b a) (hs : (a.short && !b.short) = true) : Runs (runA a b) 4 := by
  have hsa : a.short = true := (Bool.and_eq_true_iff.1 hs).1
  have hsb : b.short = false := by have := (Bool.and_eq_true_iff.1 hs).2; simpa using this
  have hna : (noSh a).may = true := may_short ha
  have sa := ask_small6 ha
  have sb := ask_small6 hb
  have sn := ask_small6 hna
  have t1 := req_bad6 (n := askd b) (i := 1) sa (by omega) (by omega) rfl (judge_bad ha hb hs)
  have t2 := req_good6 (n := askd a) (i := 1) sb (by omega) (by omega) rfl (judge_good hb ha hm2 (by rw [hsb]; rfl))
  rw [taken_ask hb] at t2
  have t3 := take_ack6 (n := { askd b with state := 6 }) sb rfl (show (0:Int) ≤ _ from by first | exact (show (0:Int) ≤ 1 by omega) | exact (show (0:Int) ≤ 2 by omega)) (show _ ≤ (255:Int) from by first | exact (show (1:Int) ≤ 255 by omega) | exact (show (2:Int) ≤ 255 by omega))
  have t4 := rej_8 (n := { askd a with state := 8, other := b }) sh_small rfl (show (0:Int) ≤ _ from by first | exact (show (0:Int) ≤ 1 by omega) | exact (show (0:Int) ≤ 2 by omega)) (show _ ≤ (255:Int) from by first | exact (show (1:Int) ≤ 255 by omega) | exact (show (2:Int) ≤ 255 by omega))
  rw [show learnD ({ askd a with state := 8, other := b } : NegD).own 4 [shO] = (noSh a, 0) from learn_short ha hsa] at t4
  have t5 := req_good7 (n := { askd b with state := 7, left := 8 }) (i := 2) sn (by omega) (by omega) rfl (judge_good hna hb hm (by rfl))
  rw [taken_ask hna] at t5
  have t6 := ack_8 (n := scr { askd a with state := 8, other := b, own := noSh a, left := 8 }) sn rfl (show (0:Int) ≤ _ from by first | exact (show (0:Int) ≤ 1 by omega) | exact (show (0:Int) ≤ 2 by omega)) (show _ ≤ (255:Int) from by first | exact (show (1:Int) ≤ 255 by omega) | exact (show (2:Int) ≤ 255 by omega))
  refine ⟨?_, ?_, ?_, rfl, rfl, ?_, ?_, ?_, ?_, by omega⟩
  · intro i hi
    match i, hi with
    | 0, _ => exact takeAll_one t1
    | 1, _ => exact takeAll_one t3
    | 2, _ => exact takeAll_one t5
    | 3, _ => rfl
  · intro i hi
    match i, hi with
    | 0, _ => exact takeAll_one t2
    | 1, _ => exact takeAll_one t4
    | 2, _ => rfl
    | 3, _ => exact takeAll_one t6
  · intro i hi
    match i, hi with
    | 0, _ => simp [runA]
    | 1, _ => simp [runA]
    | 2, _ => simp [runA]
    | 3, _ => simp [runA]
  · intro i hi p hp
    match i, hi with
    | 0, _ => simp [runA] at hp; subst hp; exact fit_small sb
    | 1, _ => simp [runA] at hp; subst hp; exact fit_small sh_small
    | 2, _ => simp [runA] at hp
    | 3, _ => simp [runA] at hp; subst hp; exact fit_small sn
    | 4, _ => simp [runA] at hp
  · intro i hi p hp
    match i, hi with
    | 0, _ => simp [runA] at hp; subst hp; exact fit_small sa
    | 1, _ => simp [runA] at hp; subst hp; exact fit_small sb
    | 2, _ => simp [runA] at hp; subst hp; exact fit_small sn
    | 3, _ => simp [runA] at hp
    | 4, _ => simp [runA] at hp
  · intro i hi
    match i, hi with
    | 0, _ => simp [runA]
    | 1, _ => simp [runA]
    | 2, _ => simp [runA]
    | 3, _ => simp [runA]
    | 4, _ => simp [runA]
  · intro i hi
    match i, hi with
    | 0, _ => simp [runA]
    | 1, _ => simp [runA]
    | 2, _ => simp [runA]
    | 3, _ => simp [runA]
    | 4, _ => simp [runA]

/-- the sides swapped -/
def swapR (S : Nat → Round) (i : Nat) : Round := ⟨(S i).y, (S i).x, (S i).toY, (S i).toX⟩
theorem Runs.swap {S : Nat → Round} {R : Nat} (h : Runs S R) : Runs (swapR S) R :=
  ⟨h.stepX, h.stepY, fun i hi => by have := h.some i hi; simp only [swapR]; omega, h.endY, h.endX, h.fitY, h.fitX, h.lenY, h.lenX, h.many⟩

/-- two sides that have asked come to be open -/
theorem runs_any {a b : LinkD} (ha : a.may = true) (hb : b.may = true) (hm : magOk a b) (hm2 : magOk b a) : ∃ S R, Runs S R ∧ S 0 = ⟨askd a, askd b, [req1 b], [req1 a]⟩ ∧ Opened (S R).x (meet a b) (meet b a) ∧ Opened (S R).y (meet b a) (meet a b) := by
  cases hs : (a.short && !b.short) with
  | true =>
    have hsa : a.short = true := (Bool.and_eq_true_iff.1 hs).1
    have hsb : b.short = false := by have := (Bool.and_eq_true_iff.1 hs).2; simpa using this
    have e1 : meet a b = noSh a := by unfold meet noSh; rw [hsa, hsb]; rfl
    have e2 : meet b a = b := by obtain ⟨b0, b1, b2, b3, b4, b5⟩ := b; simp only at hsb; subst hsb; rfl
    exact ⟨runA a b, 4, runs_a ha hb hm hm2 hs, rfl, by rw [e1, e2]; exact ⟨rfl, rfl, rfl, rfl⟩, by rw [e1, e2]; exact ⟨rfl, rfl, rfl, rfl⟩⟩
  | false =>
    cases hs2 : (b.short && !a.short) with
    | true =>
      have hsb : b.short = true := (Bool.and_eq_true_iff.1 hs2).1
      have hsa : a.short = false := by have := (Bool.and_eq_true_iff.1 hs2).2; simpa using this
      have e1 : meet b a = noSh b := by unfold meet noSh; rw [hsa, hsb]; rfl
      have e2 : meet a b = a := by obtain ⟨b0, b1, b2, b3, b4, b5⟩ := a; simp only at hsa; subst hsa; rfl
      exact ⟨swapR (runA b a), 4, (runs_a hb ha hm2 hm hs2).swap, rfl, by rw [e1, e2]; exact ⟨rfl, rfl, rfl, rfl⟩, by rw [e1, e2]; exact ⟨rfl, rfl, rfl, rfl⟩⟩
    | false =>
      have e1 : meet a b = a := by
        obtain ⟨a0, a1, a2, a3, a4, a5⟩ := a
        obtain ⟨b0, b1, b2, b3, b4, b5⟩ := b
        simp only at hs hs2
        cases a3 <;> cases b3 <;> simp_all [meet]
      have e2 : meet b a = b := by
        obtain ⟨a0, a1, a2, a3, a4, a5⟩ := a
        obtain ⟨b0, b1, b2, b3, b4, b5⟩ := b
        simp only at hs hs2
        cases a3 <;> cases b3 <;> simp_all [meet]
      exact ⟨runN a b, 2, runs_n ha hb hm hm2 hs hs2, rfl, by rw [e1, e2]; exact ⟨rfl, rfl, rfl, rfl⟩, by rw [e1, e2]; exact ⟨rfl, rfl, rfl, rfl⟩⟩
end Go.Proofs.YthlfghheciamcaaDoor
