/-
  The plain words of the package policy: links, options, numbers in bytes, what is judged, learned, taken.
  Conditions: none (definitions and plain lemmas; no program).
-/
import Derived.Below
import Derived.Test.YthlfghheciamcaaDoorP
import Derived.RowKit
import Derived.Laws.BitsAllLaws
import Derived.Laws.BitsLemmas
namespace Go.Proofs.YthlfghheciamcaaDoor
open Go.RowKit

structure LinkD where
  mru : Int
  magic : Int
  mrru : Int
  short : Bool
  disc : ByteArray
  num : Int
deriving DecidableEq

structure OptD where
  kind : Int
  data : ByteArray
deriving DecidableEq

def LinkD.cells (l : LinkD) : Array Value := #[.int .i64 l.mru, .int .i64 l.magic, .int .i64 l.mrru, .bool l.short, .string l.disc, .int .i64 l.num]
def OptD.cells (o : OptD) : List Value := [.int .i64 o.kind, .string o.data]
def optCells (os : List OptD) : List Value := os.flatMap OptD.cells

theorem optCells_length (os : List OptD) : (optCells os).length = os.length * 2 := by
  induction os with
  | nil => rfl
  | cons o os ih => simp only [optCells, List.flatMap_cons, List.length_append, List.length_cons] at ih ⊢; simp only [OptD.cells, List.length_cons, List.length_nil] at ih ⊢; omega
theorem optCells_append (xs ys : List OptD) : optCells (xs ++ ys) = optCells xs ++ optCells ys := by simp [optCells]
theorem optCells_one (o : OptD) : optCells [o] = [.int .i64 o.kind, .string o.data] := rfl
theorem optCells_kind (os : List OptD) : ∀ (k : Nat) (h : k < os.length), (optCells os)[k * 2]? = some (.int .i64 (os[k]'h).kind) := by
  induction os with
  | nil => intro k h; simp at h
  | cons o os ih =>
    intro k h
    cases k with
    | zero => rfl
    | succ k =>
      have h2 : k < os.length := by simpa using h
      have := ih k h2
      rw [show (k + 1) * 2 = k * 2 + 1 + 1 by omega]
      simpa [optCells, OptD.cells] using this
theorem optCells_data (os : List OptD) : ∀ (k : Nat) (h : k < os.length), (optCells os)[k * 2 + 1]? = some (.string (os[k]'h).data) := by
  induction os with
  | nil => intro k h; simp at h
  | cons o os ih =>
    intro k h
    cases k with
    | zero => rfl
    | succ k =>
      have h2 : k < os.length := by simpa using h
      have := ih k h2
      rw [show (k + 1) * 2 + 1 = k * 2 + 1 + 1 + 1 by omega]
      simpa [optCells, OptD.cells] using this
theorem optCells_one_cell (os : List OptD) : ∀ u ∈ optCells os, u.oneCell' = true := by
  intro u hu
  simp only [optCells, List.mem_flatMap] at hu
  obtain ⟨o, _, ho⟩ := hu
  simp only [OptD.cells, List.mem_cons, List.not_mem_nil, or_false] at ho
  rcases ho with rfl | rfl <;> rfl
theorem optCells_drop (os : List OptD) : ∀ k, (optCells os).drop (k * 2) = optCells (os.drop k) := by
  induction os with
  | nil => intro k; simp [optCells]
  | cons o os ih =>
    intro k
    cases k with
    | zero => simp
    | succ k =>
      rw [show (k + 1) * 2 = k * 2 + 1 + 1 by omega]
      simpa [optCells, OptD.cells] using ih k
theorem optCells_take (os : List OptD) : ∀ k, (optCells os).take (k * 2) = optCells (os.take k) := by
  induction os with
  | nil => intro k; simp [optCells]
  | cons o os ih =>
    intro k
    cases k with
    | zero => simp [optCells]
    | succ k =>
      rw [show (k + 1) * 2 = k * 2 + 1 + 1 by omega]
      simpa [optCells, OptD.cells] using ih k

theorem add_field (ad : Addr) (i k : Nat) (hk : k ≠ 0) : ad.add (i + k) = ⟨(ad.add i).block, (ad.add i).off + k, none⟩ := by
  unfold Addr.add
  by_cases hi : i = 0
  · subst hi; simp [hk]
  · rw [if_neg (by omega), if_neg hi]; simp [Nat.add_assoc]
theorem opt_at {w w' : World} {B : Nat} {A : Option Addr} {n : Nat} {os : List OptD} (hr : Reads w B 2 A n (optCells os)) (hb : Below B w w') (m : Nat) (hm : m < os.length) (hn : os.length = n) :
    ∃ ad, A = some ad ∧ ad.block < B ∧ w'.cell? (ad.add (m * 2)) = some (.int .i64 (os[m]'hm).kind) ∧ w'.cell? ⟨(ad.add (m * 2)).block, (ad.add (m * 2)).off + 1, none⟩ = some (.string (os[m]'hm).data) := by
  obtain ⟨ad, hA, hbl, hx⟩ := hr.2 (by omega)
  refine ⟨ad, hA, hbl, (hb.cell (by rw [block_of_add]; exact hbl)).trans (hx _ _ (optCells_kind os m hm)), ?_⟩
  rw [← add_field ad (m * 2) 1 (by omega)]
  exact (hb.cell (by rw [block_of_add]; exact hbl)).trans (hx _ _ (optCells_data os m hm))

/-! ### numbers -/
def unitB (x : Int) : Bool := decide (128 ≤ x) && decide (x ≤ 1500)
def sizeB (x : Int) : Bool := x == 0 || unitB x
def LinkD.may (l : LinkD) : Bool := sizeB l.mru && (sizeB l.mrru && (decide (0 ≤ l.magic) && (decide (l.magic ≤ 4294967295) && (decide (l.disc.size ≤ 20) && (decide (0 ≤ l.num) && decide (l.num ≤ 65535))))))
def sizeK (k : Int) : Int := if k = 1 then 2 else if k = 17 then 2 else if k = 23 then 2 else if k = 5 then 4 else if k = 18 then 0 else if k = 19 then -1 else -2
def rightB (o : OptD) : Bool := sizeK o.kind == (o.data.size : Int) || (sizeK o.kind == -1 && (decide (1 ≤ o.data.size) && decide (o.data.size ≤ 20)))

/-- byte i of a number, the lowest first -/
def byteI (x : Int) (i : Nat) : Int := x / 2 ^ (8 * i) % 256
def byteAt (x : Int) (i : Nat) : UInt8 := UInt8.ofNat (byteI x i).toNat
theorem byteI_range (x : Int) (i : Nat) : 0 ≤ byteI x i ∧ byteI x i < 256 := by unfold byteI; omega
theorem byteAt_toNat (x : Int) (i : Nat) : ((byteAt x i).toNat : Int) = byteI x i := by
  have h := byteI_range x i
  unfold byteAt
  rw [UInt8.toNat_ofNat']
  omega
/-- the k lowest bytes, the high one first -/
def numL (x : Int) : Nat → List UInt8
  | 0 => []
  | k + 1 => byteAt x k :: numL x k
theorem numL_length (x : Int) : ∀ k, (numL x k).length = k
  | 0 => rfl
  | k + 1 => by simp [numL, numL_length x k]
theorem numL_at (x : Int) : ∀ (k m : Nat), m < k → (numL x k)[m]? = some (byteAt x (k - 1 - m))
  | 0, m, h => by omega
  | k + 1, 0, _ => by simp [numL]
  | k + 1, m + 1, h => by
    have := numL_at x k m (by omega)
    simp only [numL, List.getElem?_cons_succ, this]
    rw [show k + 1 - 1 - (m + 1) = k - 1 - m by omega]
theorem numL_take (x : Int) (k m : Nat) (h : m < k) : (numL x k).take (m + 1) = (numL x k).take m ++ [byteAt x (k - 1 - m)] := by
  rw [List.take_add_one, numL_at x k m h]
  rfl
def numB (x : Int) (k : Nat) : ByteArray := ⟨(numL x k).toArray⟩

/-- one byte more of a number -/
def shiftIn (x : Int) (b : UInt8) : Int := bits .or .i64 (wrap64 (x * 256)) (b.toNat : Int)
theorem wrap_byte (b : UInt8) : wrap64 (b.toNat : Int) = (b.toNat : Int) := by
  have := b.toNat_lt
  unfold wrap64
  omega
def valL (l : List UInt8) : Int := l.foldl shiftIn 0
def valB (s : ByteArray) : Int := valL s.data.toList

theorem valL_snoc (l : List UInt8) (b : UInt8) : valL (l ++ [b]) = shiftIn (valL l) b := by simp [valL]

/-! ### a side: by a kind -/
def LinkD.field (l : LinkD) (k : Int) : Option (Nat × Int) :=
  if k = 1 then some (0, l.mru) else if k = 5 then some (1, l.magic) else if k = 17 then some (2, l.mrru) else if k = 23 then some (5, l.num) else none
def LinkD.asks (l : LinkD) (k : Int) : Bool :=
  if k = 18 then l.short else if k = 19 then !l.disc.toList.isEmpty else match l.field k with | some (_, x) => x != 0 | none => false
def LinkD.put (l : LinkD) (k : Int) (x : Int) : LinkD :=
  if k = 1 then { l with mru := x } else if k = 5 then { l with magic := x } else if k = 17 then { l with mrru := x } else if k = 23 then { l with num := x } else l
def LinkD.set (l : LinkD) (o : OptD) : LinkD :=
  if o.kind = 18 then { l with short := true } else if o.kind = 19 then { l with disc := o.data } else l.put o.kind (valB o.data)
def LinkD.clear (l : LinkD) (k : Int) : LinkD :=
  if k = 18 then { l with short := false } else if k = 19 then { l with disc := ⟨#[]⟩ } else l.put k 0
def unfitB (o : OptD) : Bool := (o.kind == 1 || o.kind == 17) && !unitB (valB o.data) || o.kind == 5 && valB o.data == 0
def LinkD.learn (l : LinkD) (o : OptD) : LinkD := if unfitB o then l else l.set o
def LinkD.learn1 (l : LinkD) (nak : Bool) (o : OptD) : LinkD := if rightB o && l.asks o.kind then (if nak then l.learn o else l.clear o.kind) else l
def LinkD.learnAll (l : LinkD) (nak : Bool) (os : List OptD) : LinkD := os.foldl (fun l o => l.learn1 nak o) l
end Go.Proofs.YthlfghheciamcaaDoor
