/-
  The plain laws of package policy, on: what was naked is taken.
  Conditions: none (plain lemmas; no program's text in sight).
-/
import Derived.Test.YthlfghheciamcaaT4
namespace Go.Proofs.Ythlfghheciamcaa
open Go.RowKit
set_option linter.unusedVariables false

def ownM (m : Int) : LinkD := ⟨0, m, 0, false, ⟨#[]⟩, 0⟩
theorem ownM_may {m : Int} (h : 1 ≤ m) (h2 : m ≤ 65536) : (ownM m).may = true := by
  rw [may_iff]
  exact ⟨.inl rfl, .inl rfl, ⟨by show 0 ≤ m; omega, by show m ≤ 4294967295; omega⟩, Nat.zero_le _, ⟨Int.le_refl _, by show (0 : Int) ≤ 65535; omega⟩⟩
/-- an option in the place of one of its kind -/
def rep1 (o r : OptD) : OptD := if o.kind = r.kind then r else o
theorem judge_three {own : LinkD} (hm : own.may = true) (x y z : ByteArray) (hx : x.size = 2) (hy : y.size = 4) (hz : z.size = 2) :
    judgeD own [⟨1, x⟩, ⟨5, y⟩, ⟨17, z⟩] = 
      (if (((if (betterD own ⟨1, x⟩).2 then [(betterD own ⟨1, x⟩).1] else []) ++ (if (betterD own ⟨5, y⟩).2 then [(betterD own ⟨5, y⟩).1] else [])) ++ (if (betterD own ⟨17, z⟩).2 then [(betterD own ⟨17, z⟩).1] else [])).length = 0 then (0, [⟨1, x⟩, ⟨5, y⟩, ⟨17, z⟩], 0)
       else (1, ((if (betterD own ⟨1, x⟩).2 then [(betterD own ⟨1, x⟩).1] else []) ++ (if (betterD own ⟨5, y⟩).2 then [(betterD own ⟨5, y⟩).1] else [])) ++ (if (betterD own ⟨17, z⟩).2 then [(betterD own ⟨17, z⟩).1] else []), 0)) := by
  have f1 : fitB ⟨1, x⟩ = true := by simp [fitB, hx]
  have f5 : fitB ⟨5, y⟩ = true := by simp [fitB, hy]
  have f17 : fitB ⟨17, z⟩ = true := by simp [fitB, hz]
  have b1 : badB own [] ⟨1, x⟩ = false := by simp [badB, rightB, sizeK, hx, twiceB]
  have b5 : badB own ([] ++ [⟨1, x⟩]) ⟨5, y⟩ = false := by simp [badB, rightB, sizeK, hy, twiceB]
  have b17 : badB own ([] ++ [⟨1, x⟩] ++ [⟨5, y⟩]) ⟨17, z⟩ = false := by simp [badB, rightB, sizeK, hz, twiceB]
  unfold judgeD
  rw [hm, if_pos rfl]
  simp only [judgeGo, f1, f5, f17, b1, b5, b17, if_true, Bool.false_eq_true, if_false]
  rcases h1 : (betterD own ⟨1, x⟩).2 with _ | _ <;> rcases h5 : (betterD own ⟨5, y⟩).2 with _ | _ <;> rcases h17 : (betterD own ⟨17, z⟩).2 with _ | _ <;> simp

def nakOf (x : ByteArray) (k : Int) : List OptD := if unitB (valB x) then [] else [⟨k, numB 1500 2⟩]
def fixOf (x : ByteArray) : ByteArray := if unitB (valB x) then x else numB 1500 2
theorem unit_1500 : unitB (valB (numB 1500 2)) = true := by rw [val_two' _ (by omega) (by omega)]; rfl
theorem fix_unit (x : ByteArray) : unitB (valB (fixOf x)) = true := by
  unfold fixOf
  cases h : unitB (valB x) with
  | true => simpa using h
  | false => simpa using unit_1500
theorem fix_size {x : ByteArray} (h : x.size = 2) : (fixOf x).size = 2 := by
  unfold fixOf
  cases unitB (valB x) with
  | true => simpa using h
  | false => rfl
theorem naks_first {m : Int} (h1 : 1 ≤ m) (h2 : m ≤ 65536) (x y z : ByteArray) (hx : x.size = 2) (hy : y.size = 4) (hz : z.size = 2) (hv : valB y = m) :
    judgeD (ownM m) [⟨1, x⟩, ⟨5, y⟩, ⟨17, z⟩] = (1, (nakOf x 1 ++ [⟨5, numB (4294967295 - m) 4⟩]) ++ nakOf z 17, 0) := by
  rw [judge_three (ownM_may h1 h2) x y z hx hy hz]
  have e1 : betterD (ownM m) ⟨1, x⟩ = (⟨1, numB 1500 2⟩, !unitB (valB x)) := rfl
  have e17 : betterD (ownM m) ⟨17, z⟩ = (⟨17, numB 1500 2⟩, !unitB (valB z)) := rfl
  have e5 : betterD (ownM m) ⟨5, y⟩ = (⟨5, numB (4294967295 - m) 4⟩, true) := by
    have : betterD (ownM m) ⟨5, y⟩ = (⟨5, numB (if 1 < 4294967295 - m then 4294967295 - m else 1) 4⟩, valB y == 0 || valB y == m) := rfl
    rw [this, if_pos (by omega), hv]
    simp
  rw [e1, e5, e17]
  unfold nakOf
  rcases unitB (valB x) with _ | _ <;> rcases unitB (valB z) with _ | _ <;> simp
theorem naks_second {m : Int} (h1 : 1 ≤ m) (h2 : m ≤ 65536) (x z : ByteArray) (hx : x.size = 2) (hz : z.size = 2) :
    judgeD (ownM m) [⟨1, fixOf x⟩, ⟨5, numB (4294967295 - m) 4⟩, ⟨17, fixOf z⟩] = (0, [⟨1, fixOf x⟩, ⟨5, numB (4294967295 - m) 4⟩, ⟨17, fixOf z⟩], 0) := by
  have hy : (numB (4294967295 - m) 4).size = 4 := by show (numL (4294967295 - m) 4).toArray.size = 4; rw [List.size_toArray, numL_length]
  rw [judge_three (ownM_may h1 h2) (fixOf x) _ (fixOf z) (fix_size hx) hy (fix_size hz)]
  have e1 : (betterD (ownM m) ⟨1, fixOf x⟩).2 = false := by
    show (!unitB (valB (fixOf x))) = false
    rw [fix_unit]; rfl
  have e17 : (betterD (ownM m) ⟨17, fixOf z⟩).2 = false := by
    show (!unitB (valB (fixOf z))) = false
    rw [fix_unit]; rfl
  have e5 : (betterD (ownM m) ⟨5, numB (4294967295 - m) 4⟩).2 = false := by
    show (valB (numB (4294967295 - m) 4) == 0 || valB (numB (4294967295 - m) 4) == m) = false
    rw [val_four' _ (by omega) (by omega)]
    have g1 : ((4294967295 - m) == 0) = false := by simp; omega
    have g2 : ((4294967295 - m) == m) = false := by simp; omega
    rw [g1, g2]; rfl
  rw [e1, e5, e17]
  rfl

def naksOf (m : Int) (x z : ByteArray) : List OptD := (nakOf x 1 ++ [⟨5, numB (4294967295 - m) 4⟩]) ++ nakOf z 17
theorem naks_len (m : Int) (x z : ByteArray) : 1 ≤ (naksOf m x z).length ∧ (naksOf m x z).length ≤ 3 := by
  unfold naksOf nakOf
  rcases unitB (valB x) with _ | _ <;> rcases unitB (valB z) with _ | _ <;> simp
theorem fold_1 (m : Int) (x z : ByteArray) : (naksOf m x z).foldl rep1 ⟨1, x⟩ = ⟨1, fixOf x⟩ := by
  unfold naksOf nakOf fixOf
  rcases unitB (valB x) with _ | _ <;> rcases unitB (valB z) with _ | _ <;> simp [rep1]
theorem fold_5 (m : Int) (x z y : ByteArray) : (naksOf m x z).foldl rep1 ⟨5, y⟩ = ⟨5, numB (4294967295 - m) 4⟩ := by
  unfold naksOf nakOf
  rcases unitB (valB x) with _ | _ <;> rcases unitB (valB z) with _ | _ <;> simp [rep1]
theorem fold_17 (m : Int) (x z : ByteArray) : (naksOf m x z).foldl rep1 ⟨17, z⟩ = ⟨17, fixOf z⟩ := by
  unfold naksOf nakOf fixOf
  rcases unitB (valB x) with _ | _ <;> rcases unitB (valB z) with _ | _ <;> simp [rep1]
theorem fold_step (rs : List OptD) (o : OptD) (m : Nat) (h : m < rs.length) : (rs.take (m + 1)).foldl rep1 o = rep1 ((rs.take m).foldl rep1 o) (rs[m]'h) := by
  rw [List.take_add_one, List.getElem?_eq_getElem h, List.foldl_append]
  rfl
end Go.Proofs.Ythlfghheciamcaa
