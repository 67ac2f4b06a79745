/-
  Contracts of package fsm: a step of the table.
  Conditions: the variable internal/bytealg.MaxLen holds an int; as each states.
-/
import Derived.Test.YthlfghheciamcaaDoorF1
namespace Go.Proofs.YthlfghheciamcaaDoor
open Go.RowKit
set_option linter.unusedVariables false

/-- block 0 is a variable of the library's: it holds some int -/
def HasMax (w : World) : Prop := ∃ m : Int, w.cell? ⟨0, 0, none⟩ = some (.int .i64 m)
theorem HasMax.pos {w : World} (h : HasMax w) : 0 < w.heap.size := by
  obtain ⟨m, hm⟩ := h
  rcases Nat.lt_or_ge 0 w.heap.size with h' | h'
  · exact h'
  · simp [World.cell?, Array.getElem?_eq_none h'] at hm
theorem HasMax.below {w w' : World} {B : Nat} (h : HasMax w) (hb : Below B w w') (hB : 0 < B) : HasMax w' := by
  obtain ⟨m, hm⟩ := h
  exact ⟨m, (hb.cell hB).trans hm⟩

/-- the numbers of a name, of the first j names -/
def idxs (word : ByteArray) (j : Nat) : List Int := ((List.range j).filter fun k => decide (namesL[k]?.getD ⟨#[]⟩ = word)).map Int.ofNat
def actsL (ws : List ByteArray) : List Int := ws.flatMap fun x => idxs x 14
def wordsOf (s : ByteArray) : List ByteArray := Lib.splitB ⟨#[44]⟩ 0 (Lib.countB s ⟨#[44]⟩) s
def headOf (s : ByteArray) : Int := (((s.data.toList[0]?.getD 0).toNat : Int) - 48) % 256
/-- what a cell says: the next state, the actions, the errno -/
def stepC (c : ByteArray) : Int × List Int × Int :=
  if c.toList == [45] then (0, [], 1001)
  else if (Lib.cut c.data.toList [47]).2.2 then (headOf ⟨(Lib.cut c.data.toList [47]).2.1.toArray⟩, actsL (wordsOf ⟨(Lib.cut c.data.toList [47]).1.toArray⟩), 0)
  else (headOf c, [], 0)
def stepD (state event : Int) : Int × List Int × Int :=
  if state < 0 ∨ 10 ≤ state ∨ event < 0 ∨ 16 ≤ event then (0, [], 1000) else stepC (tabL[(event.toNat * 10 + state.toNat)]?.getD ⟨#[]⟩)

def nameCells : Array Value := (namesL.map Value.string).toArray
theorem names_any (w : World) : Calls Tryd.prog 61 #[] w fun e w' => e = .returned (.slice (some ⟨w.heap.size, 0, none⟩) 14 14) ∧ w' = w.alloc (.cells nameCells 9) := by
  go_enter Tryd.func61, Tryd.ntmps61
  go_wp2_with fail
  go_ret
  exact ⟨rfl, rfl⟩

theorem idxs_step (word : ByteArray) (j : Nat) : idxs word (j + 1) = idxs word j ++ if namesL[j]?.getD ⟨#[]⟩ = word then [(j : Int)] else [] := by
  unfold idxs
  rw [List.range_succ, List.filter_append, List.map_append]
  by_cases h : namesL[j]?.getD ⟨#[]⟩ = word
  · simp [h]
  · simp [h]
theorem actsL_step (ws : List ByteArray) (m : Nat) (h : m < ws.length) : actsL (ws.take (m + 1)) = actsL (ws.take m) ++ idxs (ws[m]'h) 14 := by
  unfold actsL
  rw [List.take_add_one, List.getElem?_eq_getElem h, List.flatMap_append]
  simp
theorem idxs_len (word : ByteArray) (j : Nat) : (idxs word j).length ≤ j := by
  unfold idxs
  rw [List.length_map]
  exact Nat.le_trans (List.length_filter_le _ _) (by simp)
theorem actsL_len : ∀ ws : List ByteArray, (actsL ws).length ≤ 14 * ws.length
  | [] => by simp [actsL]
  | x :: ws => by
    have h1 := actsL_len ws
    have h2 := idxs_len x 14
    have e : actsL (x :: ws) = idxs x 14 ++ actsL ws := rfl
    rw [e, List.length_append, List.length_cons]
    omega
def cellOk (c : ByteArray) : Bool := decide (1 ≤ c.size) && decide (c.size ≤ 20) && (!(Lib.cut c.data.toList [47]).2.2 || (decide (1 ≤ (Lib.cut c.data.toList [47]).2.1.length) && (decide ((Lib.cut c.data.toList [47]).1.length ≤ 20) && (decide ((wordsOf ⟨(Lib.cut c.data.toList [47]).1.toArray⟩).length ≤ 20) && decide ((actsL (wordsOf ⟨(Lib.cut c.data.toList [47]).1.toArray⟩)).length ≤ 20)))))
theorem cells_ok : tabL.all cellOk = true := by decide +kernel
theorem tab_len : tabL.length = 160 := by decide +kernel
end Go.Proofs.YthlfghheciamcaaDoor
