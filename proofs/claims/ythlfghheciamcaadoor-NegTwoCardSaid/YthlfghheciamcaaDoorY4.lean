/-
  Plain facts on two open sides, of which one begins anew; on echoes and unknown codes.
  Conditions: none (plain lemmas).
-/
import Derived.Test.YthlfghheciamcaaDoorZ3
namespace Go.Proofs.YthlfghheciamcaaDoor
open Go.RowKit
set_option linter.unusedVariables false

theorem do_down9 {n : NegD} (h : n.state = 9) : userDo n 1 = ({ n with state := 1 }, [], 0) := by
  rw [userDo_of (by decide) (by decide), evFix_other (by decide), doD_of noRep (show stepD n.state 1 = _ by rw [h]; exact st_9_1)]; rfl
/-- a side that was open, down and up again -/
def upD (y : NegD) : NegD := scr { y with state := 6, left := y.tries }
theorem do_up_down {y : NegD} : userDo { y with state := 1 } 0 = (upD y, [reqOf y], 0) := (do_up1 rfl).trans rfl

/-- the exchange that follows -/
def x8 (x : NegD) : NegD := { scr { x with state := 8 } with other := x.other }
def runG (x y : NegD) : Nat → Round
  | 0 => ⟨x, upD y, [reqOf y], []⟩
  | 1 => ⟨x8 x, upD y, [], [reqOf x, ⟨2, nextI y.id, y.own.ask, emptyB⟩]⟩
  | 2 => ⟨x8 x, { upD y with state := 9, left := y.tries }, [⟨2, nextI x.id, x.own.ask, emptyB⟩], []⟩
  | _ => ⟨{ x8 x with state := 9, left := x.tries }, { upD y with state := 9, left := y.tries }, [], []⟩
theorem runs_g {l m : LinkD} {x y : NegD} (hx : Opened x l m) (hy : Opened y m l) (hl : l.may = true) (hm : m.may = true) (h1 : magOk l m) (h2 : magOk m l) (hs : (l.short && !m.short) = false) (hs2 : (m.short && !l.short) = false) :
    Runs (runG x y) 3 ∧ Opened (runG x y 3).x l m ∧ Opened (runG x y 3).y m l := by
  obtain ⟨xs, xl, xt, xo, xo2, xi, xa, xos⟩ := x
  obtain ⟨ys, yl, yt, yo, yo2, yi, ya, yos⟩ := y
  obtain ⟨e1, e2, e3, e4⟩ := hx
  obtain ⟨f1, f2, f3, f4⟩ := hy
  simp only at e1 e2 e3 e4 f1 f2 f3 f4
  subst e1 e2 e3 e4 f1 f2 f3 f4
  have sl := ask_small6 hl
  have sm := ask_small6 hm
  obtain ⟨i0, i1⟩ := nextI_range xi
  obtain ⟨j0, j1⟩ := nextI_range yi
  have t1 := req_good9 (n := ⟨9, xl, 8, yo2, yo, xi, xa, xos⟩) (i := nextI yi) sm j0 j1 rfl (judge_good hm hl h2 hs2)
  rw [taken_ask hm] at t1
  have t2 := req_good6 (n := upD ⟨9, yl, 8, yo, yo2, yi, ya, yos⟩) (i := nextI xi) sl i0 i1 rfl (judge_good hl hm h1 hs)
  rw [taken_ask hl] at t2
  have t3 := ack_8 (n := { upD ⟨9, yl, 8, yo, yo2, yi, ya, yos⟩ with state := 8, other := yo2 }) sm rfl j0 j1
  have t4 := ack_8 (n := x8 ⟨9, xl, 8, yo2, yo, xi, xa, xos⟩) sl rfl i0 i1
  refine ⟨⟨?_, ?_, ?_, rfl, rfl, ?_, ?_, ?_, ?_, by omega⟩, ⟨rfl, rfl, rfl, rfl⟩, ⟨rfl, rfl, rfl, rfl⟩⟩
  · intro i hi
    match i, hi with
    | 0, _ => rfl
    | 1, _ => exact takeAll_two t2 t3
    | 2, _ => rfl
  · intro i hi
    match i, hi with
    | 0, _ => exact takeAll_one t1
    | 1, _ => rfl
    | 2, _ => exact takeAll_one t4
  · intro i hi
    match i, hi with
    | 0, _ => simp [runG]
    | 1, _ => simp [runG]
    | 2, _ => simp [runG]
  · intro i hi p hp
    match i, hi with
    | 0, _ => simp [runG] at hp; subst hp; exact fit_small sm
    | 1, _ => simp [runG] at hp
    | 2, _ => simp [runG] at hp; subst hp; exact fit_small sl
    | 3, _ => simp [runG] at hp
  · intro i hi p hp
    match i, hi with
    | 0, _ => simp [runG] at hp
    | 1, _ => simp [runG] at hp; rcases hp with rfl | rfl; exact fit_small sl; exact fit_small sm
    | 2, _ => simp [runG] at hp
    | 3, _ => simp [runG] at hp
  · intro i hi
    match i, hi with
    | 0, _ => simp [runG]
    | 1, _ => simp [runG]
    | 2, _ => simp [runG]
    | 3, _ => simp [runG]
  · intro i hi
    match i, hi with
    | 0, _ => simp [runG]
    | 1, _ => simp [runG]
    | 2, _ => simp [runG]
    | 3, _ => simp [runG]

theorem meet_mag {a b : LinkD} (h : magOk a b) : magOk (meet a b) (meet b a) := h
theorem meet_short (a b : LinkD) : ((meet a b).short && !(meet b a).short) = false := by
  obtain ⟨a0, a1, a2, a3, a4, a5⟩ := a
  obtain ⟨b0, b1, b2, b3, b4, b5⟩ := b
  cases a3 <;> cases b3 <;> rfl
theorem may_meet {a : LinkD} (b : LinkD) (h : a.may = true) : (meet a b).may = true := h
/-- a side anew: what both come to -/
theorem runs_again {a b : LinkD} {x y : NegD} (hx : Opened x (meet a b) (meet b a)) (hy : Opened y (meet b a) (meet a b)) (ha : a.may = true) (hb : b.may = true) (hab : magOk a b) (hba : magOk b a) :
    ∃ S R, Runs S R ∧ S 0 = ⟨x, upD y, [reqOf y], []⟩ ∧ Opened (S R).x (meet a b) (meet b a) ∧ Opened (S R).y (meet b a) (meet a b) :=
  have h := runs_g hx hy (may_meet b ha) (may_meet a hb) (meet_mag hab) (meet_mag hba) (meet_short a b) (meet_short b a)
  ⟨runG x y, 3, h.1, rfl, h.2.1, h.2.2⟩

/-- an echo is answered -/
theorem take_echo9 {n : NegD} {i : Int} {d : ByteArray} (h : n.state = 9) (hi : 0 ≤ i) (hi2 : i ≤ 255) (hd : d.size ≤ 2044) : takeD n ⟨9, i, [], d⟩ = ({ n with state := 9 }, [⟨10, i, [], d⟩], 0) := by
  have hp := put_plain (c := 9) (i := i) (d := d) hd (by omega) (by omega) hi hi2
  unfold takeD
  rw [if_neg (by rw [hp]; simp), if_neg (by omega), eventD_other (r := repOf ⟨9, i, [], d⟩) (by simp [repOf]) (by simp [repOf]) (by simp [repOf]) (by simp [repOf])]
  simp only
  rw [if_pos trivial]
  exact (doD_of (n := n) (ev := 15) (nx := 9) (acts := [13]) _ (show stepD n.state 15 = _ by rw [h]; exact st_9_15)).trans rfl
/-- a discard is not -/
theorem take_discard9 {n : NegD} {i : Int} {d : ByteArray} (h : n.state = 9) (hi : 0 ≤ i) (hi2 : i ≤ 255) (hd : d.size ≤ 2044) : takeD n ⟨11, i, [], d⟩ = ({ n with state := 9 }, [], 0) := by
  have hp := put_plain (c := 11) (i := i) (d := d) hd (by omega) (by omega) hi hi2
  unfold takeD
  rw [if_neg (by rw [hp]; simp), if_neg (by omega), eventD_other (r := repOf ⟨11, i, [], d⟩) (by simp [repOf]) (by simp [repOf]) (by simp [repOf]) (by simp [repOf])]
  simp only
  rw [if_pos trivial]
  exact (doD_of (n := n) (ev := 15) (nx := 9) (acts := [13]) _ (show stepD n.state 15 = _ by rw [h]; exact st_9_15)).trans rfl
/-- an unknown code is refused -/
theorem take_unknown9 {n : NegD} {c i : Int} {d : ByteArray} (h : n.state = 9) (hc : 12 ≤ c) (hc2 : c ≤ 255) (hi : 0 ≤ i) (hi2 : i ≤ 255) (hd : d.size ≤ 2044) :
    ∃ q : ByteArray, q.size ≤ 64 ∧ takeD n ⟨c, i, [], d⟩ = ({ n with state := 9, id := nextI n.id }, [⟨7, nextI n.id, [], q⟩], 0) := by
  have hp := put_plain (c := c) (i := i) (d := d) hd (by omega) (by omega) hi hi2
  refine ⟨⟨((controlPut ⟨c, i, [], d⟩).1.take 64).toArray⟩, by simp [ByteArray.size, Array.size]; omega, ?_⟩
  unfold takeD
  rw [if_neg (by rw [hp]; simp), if_neg (by omega), eventD_other (r := repOf ⟨c, i, [], d⟩) (by simp only [repOf]; omega) (by simp only [repOf]; omega) (by simp only [repOf]; omega) (by simp only [repOf]; omega)]
  have ho1 : otherEv c = 12 := by
    unfold otherEv
    repeat rw [if_neg (by omega)]
  have ho : otherEv (repOf ⟨c, i, [], d⟩).p.code = 12 := ho1
  simp only [ho]
  rw [if_pos trivial]
  exact (doD_of (n := n) (ev := 12) (nx := 9) (acts := [12]) _ (show stepD n.state 12 = _ by rw [h]; exact st_9_12)).trans rfl

/-- a comparison whose answer is known -/
theorem wpList_eql {P : Program} {ops : Array Oper} {Q : Exit → Act → World → Prop} {a : Act} {w : World} {rest : List Oper} {o : Oper} {t t2 : TypeId} {x y : Operand} {xs ys : Array Value} {v : Value} (hm : P.eqGuardType P.depth t = false)
    (ho : o.op = .binOp .eql t x y t2) (hw : Region.wanted o (yielded ops a.tmps) = true) (hx : a.eval x = .agg xs) (hy : a.eval y = .agg ys) (hr : (binOp .eql t (.agg xs) (.agg ys)).run P w = .ok v w) (h : wpList P ops Q rest (a.put o.dst v) w) : wpList P ops Q (o :: rest) a w :=
  wpList_step fun K hK => by
    rw [if_pos hw]
    have e : (execOp a.eval o).run P w = .ok (.value v) w := by
      unfold execOp
      simp only [ho, hx, hy, Sem.run_bind, run_eqGuard_agg (hm := hm), hr, Result.andThen_ok]
      rfl
    unfold Oper.wp
    rw [e]
    exact hK _ _ h

theorem and_mask (x : Int) (c : Nat) (hc : c < 4294967296) : ∃ k : Int, bits .and .i64 x c = k ∧ 0 ≤ k ∧ k ≤ c := by
  refine ⟨_, rfl, ?_⟩
  have h1 : (BitVec.ofInt 64 ((c : Nat) : Int)).toNat = c := by
    have := i64_ofInt c (by omega)
    exact this
  have h2 : ((BitVec.ofInt 64 x &&& BitVec.ofInt 64 ((c : Nat) : Int)).toNat) ≤ c := by
    rw [BitVec.toNat_and, h1]; exact Nat.and_le_right
  show 0 ≤ IntKind.i64.wrap ((BitVec.ofInt 64 x &&& BitVec.ofInt 64 ((c : Nat) : Int)).toNat : Int) ∧ IntKind.i64.wrap ((BitVec.ofInt 64 x &&& BitVec.ofInt 64 ((c : Nat) : Int)).toNat : Int) ≤ c
  rw [IntKind.wrap_i64]
  omega
end Go.Proofs.YthlfghheciamcaaDoor
