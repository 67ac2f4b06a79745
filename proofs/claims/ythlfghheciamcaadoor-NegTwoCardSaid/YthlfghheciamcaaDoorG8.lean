/-
  What an event's actions come to; packets in memory; the contract of send at every action.
  Conditions: as each states.
-/
import Derived.Test.YthlfghheciamcaaDoorG7
namespace Go.Proofs.YthlfghheciamcaaDoor
open Go.RowKit
set_option linter.unusedVariables false

theorem sendD_scr (n : NegD) (r : RepD) : sendD n 7 r = ({ n with left := max 0 (n.left - 1), id := nextI n.id, asked := nextI n.id, os := n.own.ask }, ⟨1, nextI n.id, n.own.ask, emptyB⟩, true) := rfl
theorem sendD_str (n : NegD) (r : RepD) : sendD n 10 r = ({ n with left := max 0 (n.left - 1), id := nextI n.id }, ⟨5, nextI n.id, [], emptyB⟩, true) := rfl
theorem sendD_sca (n : NegD) (r : RepD) : sendD n 8 r = ({ n with other := (takenD r.os).1 }, ⟨2, r.p.id, r.os, emptyB⟩, true) := rfl
theorem sendD_scn (n : NegD) (r : RepD) : sendD n 9 r = (n, ⟨if r.verdict = 2 then 4 else 3, r.p.id, r.os, emptyB⟩, true) := rfl
theorem sendD_sta (n : NegD) (r : RepD) : sendD n 11 r = (n, ⟨6, if r.event = 10 then r.p.id else 0, [], emptyB⟩, true) := rfl
theorem sendD_scj (n : NegD) (r : RepD) : sendD n 12 r = ({ n with id := nextI n.id }, ⟨7, nextI n.id, [], ⟨((controlPut r.p).1.take 64).toArray⟩⟩, true) := rfl
theorem sendD_ser (n : NegD) (r : RepD) : sendD n 13 r = (n, ⟨10, r.p.id, [], r.p.data⟩, r.p.code == 9) := rfl

theorem send_any (g t rb : Nat) (v pv ov : Value) (n : NegD) (act : Int) (r : RepD) (w : World) (h : NegAt w g t v n) (hr : RepAt w rb pv ov r) (ha : act ≤ 13) :
    Calls Tryd.prog 34 #[.pointer (some ⟨g, 0, none⟩), .int .i64 act, .pointer (some ⟨rb, 0, none⟩)] w fun e w' =>
      ∃ u v', e = .returned (.tuple #[packV (sendD n act r).2.1 u, .bool (sendD n act r).2.2]) ∧ Sent w w' g t v v' (sendD n act r).1 (sendD n act r).2.1 u := by
  by_cases h6 : act ≤ 6
  · exact send_none g t rb v pv ov n act r w h h6
  · have hc : act = 7 ∨ act = 8 ∨ act = 9 ∨ act = 10 ∨ act = 11 ∨ act = 12 ∨ act = 13 := by omega
    rcases hc with rfl | rfl | rfl | rfl | rfl | rfl | rfl
    · rw [sendD_scr]; exact send_scr g t rb v pv ov n r w h
    · rw [sendD_sca]; exact send_sca g t rb v pv ov n r w h hr
    · rw [sendD_scn]
      rcases hv : (r.verdict == 2) with _ | _
      · rw [if_neg (by simpa using hv)]; exact send_scn_false g t rb v pv ov n r w h hr hv
      · rw [if_pos (by simpa using hv)]; exact send_scn_true g t rb v pv ov n r w h hr hv
    · rw [sendD_str]; exact send_str g t rb v n w h
    · rw [sendD_sta]; exact send_sta g t rb v pv ov n r w h hr
    · rw [sendD_scj]; exact send_scj g t rb v pv ov n r w h hr
    · rw [sendD_ser]; exact send_ser g t rb v pv ov n r w h hr

/-! ### an event's actions -/
def actStart (n : NegD) (act : Int) : NegD := if act = 5 then { n with left := n.tries } else if act = 6 then { n with left := 0 } else n
def actOne (n : NegD) (r : RepD) (act : Int) : NegD × List PackD :=
  ((sendD (actStart n act) act r).1, if (sendD (actStart n act) act r).2.2 then [(sendD (actStart n act) act r).2.1] else [])
def actAll (n : NegD) (r : RepD) (ac : List Int) : NegD × List PackD := ac.foldl (fun x a => ((actOne x.1 r a).1, x.2 ++ (actOne x.1 r a).2)) (n, [])
theorem actAll_snoc (n : NegD) (r : RepD) (ac : List Int) (a : Int) : actAll n r (ac ++ [a]) = ((actOne (actAll n r ac).1 r a).1, (actAll n r ac).2 ++ (actOne (actAll n r ac).1 r a).2) := by
  unfold actAll; rw [List.foldl_append]; rfl
def doD (n : NegD) (ev : Int) (r : RepD) : NegD × List PackD × Int :=
  if (stepD n.state ev).2.2 = 0 then ((actAll { n with state := (stepD n.state ev).1 } { r with event := ev } (stepD n.state ev).2.1).1, (actAll { n with state := (stepD n.state ev).1 } { r with event := ev } (stepD n.state ev).2.1).2, 0)
  else (n, [], 1501)

theorem cell_acts : (tabL.all fun c => decide ((stepC c).2.1.length ≤ 20) && (stepC c).2.1.all fun a => decide (a ≤ 13)) = true := by decide +kernel
theorem step_acts (s e : Int) (h0 : 0 ≤ s) (h1 : s < 10) (h2 : 0 ≤ e) (h3 : e < 16) : (stepD s e).2.1.length ≤ 20 ∧ ∀ a ∈ (stepD s e).2.1, a ≤ 13 := by
  obtain ⟨s, rfl⟩ := Int.eq_ofNat_of_zero_le h0
  obtain ⟨e, rfl⟩ := Int.eq_ofNat_of_zero_le h2
  rw [stepD_in s e (by omega) (by omega)]
  have hl : e * 10 + s < tabL.length := by rw [tab_len]; omega
  rw [List.getElem?_eq_getElem hl]
  have := List.all_eq_true.1 cell_acts _ (List.getElem_mem hl)
  simp only [Bool.and_eq_true, decide_eq_true_eq, List.all_eq_true] at this
  exact this

/-! ### packets in memory -/
def packCells (l : List (PackD × Value)) : List Value := l.flatMap fun x => [.int .i64 x.1.code, .int .i64 x.1.id, x.2, .string x.1.data]
theorem packCells_append (a b : List (PackD × Value)) : packCells (a ++ b) = packCells a ++ packCells b := by simp [packCells]
structure PacksIn (w : World) (base : Nat) (V nv : Value) (l : List (PackD × Value)) : Prop where
  row : w.ownsRow base 41 4 V l.length (packCells l)
  rows : ∀ x ∈ l, w.ownsRow base 79 2 x.2 x.1.opts.length (optCells x.1.opts)
  apart : ∀ x ∈ l, Apart x.2 nv
def PacksAt (w : World) (base : Nat) (V nv : Value) (ps : List PackD) : Prop := ∃ l : List (PackD × Value), l.map Prod.fst = ps ∧ PacksIn w base V nv l
theorem PacksIn.below {w w' : World} {base : Nat} {V nv : Value} {l : List (PackD × Value)} (h : PacksIn w base V nv l) (hb : Below w.heap.size w w') : PacksIn w' base V nv l :=
  ⟨own_below h.row hb, fun x hx => own_below (h.rows x hx) hb, h.apart⟩
theorem PacksIn.beside {w w' : World} {base k : Nat} {V nv : Value} {l : List (PackD × Value)} {T : TypeId} {cs : Array Value} (h : PacksIn w base V nv l) (hb : w.grownBy w' (some k)) (hk : Blk w k T cs) (ht : T ≠ 41) (hv : T ≠ 79) : PacksIn w' base V nv l :=
  ⟨h.row.kept hb (.inr (own_blk_ne h.row hk (fun e => ht e.symm))), fun x hx => (h.rows x hx).kept hb (.inr (own_blk_ne (h.rows x hx) hk (fun e => hv e.symm))), h.apart⟩
theorem PacksIn.base {w : World} {base base' : Nat} {V nv : Value} {l : List (PackD × Value)} (h : PacksIn w base V nv l) (hb : base' ≤ base) : PacksIn w base' V nv l :=
  ⟨own_base h.row hb, fun x hx => own_base (h.rows x hx) hb, h.apart⟩
theorem Tryd.info41 : (Tryd.prog.info? 41).map (fun i => (i.zero, i.size, i.bytes)) = some (some (.agg #[.int .i64 0, .int .i64 0, .slice none 0 0, .string ⟨#[]⟩]), 4, 56) := by kernel_rfl

/-- a side's cells begin with a pointer: it is not the variable's block -/
theorem NegAt.ne_zero {w : World} {g t : Nat} {v : Value} {n : NegD} (h : NegAt w g t v n) (hm : HasMax w) : g ≠ 0 := by
  rintro rfl
  obtain ⟨m, hm⟩ := hm
  have := h.blk.cell 0
  rw [hm] at this
  cases this
theorem RepAt.ne_zero {w : World} {b : Nat} {pv ov : Value} {r : RepD} (h : RepAt w b pv ov r) (hb : 0 < b) : b ≠ 0 := by omega
theorem HasMax.neg {w w' : World} {g t : Nat} {v v' : Value} {n n' : NegD} (hm : HasMax w) (h : NegAt w g t v n) (h' : NegTo w w' g t v' n') : HasMax w' := hm.grown h'.grown (h.ne_zero hm)
end Go.Proofs.YthlfghheciamcaaDoor
