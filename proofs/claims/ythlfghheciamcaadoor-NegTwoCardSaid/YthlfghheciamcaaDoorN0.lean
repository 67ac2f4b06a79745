/-
  A link as a block of memory; one option as a slice.
  Conditions: none (general lemmas, at this program's types).
-/
import Derived.Test.YthlfghheciamcaaDoorK8
namespace Go.Proofs.YthlfghheciamcaaDoor
open Go.RowKit
set_option linter.unusedVariables false

structure LinkCells (w : World) (b : Nat) (l : LinkD) : Prop where
  c0 : w.cell? ⟨b, 0, none⟩ = some (.int .i64 l.mru)
  c1 : w.cell? ⟨b, 1, none⟩ = some (.int .i64 l.magic)
  c2 : w.cell? ⟨b, 2, none⟩ = some (.int .i64 l.mrru)
  c3 : w.cell? ⟨b, 3, none⟩ = some (.bool l.short)
  c4 : w.cell? ⟨b, 4, none⟩ = some (.string l.disc)
  c5 : w.cell? ⟨b, 5, none⟩ = some (.int .i64 l.num)
def LinkAt (w : World) (b : Nat) (l : LinkD) : Prop := Blk w b 23 l.cells
theorem LinkAt.cells {w : World} {b : Nat} {l : LinkD} (h : LinkAt w b l) : LinkCells w b l :=
  ⟨Blk.cell h 0, Blk.cell h 1, Blk.cell h 2, Blk.cell h 3, Blk.cell h 4, Blk.cell h 5⟩
theorem LinkAt.below {w w' : World} {b : Nat} {l : LinkD} (h : LinkAt w b l) (hb : Below w.heap.size w w') : LinkAt w' b l := Blk.below h hb (Blk.lt h)
theorem LinkAt.alloc {w : World} {b : Nat} {l : LinkD} (h : LinkAt w b l) (o : Obj) : LinkAt (w.alloc o) b l := Blk.alloc h o
theorem LinkAt.new (w : World) (l : LinkD) : LinkAt (w.alloc (.cells #[.int .i64 l.mru, .int .i64 l.magic, .int .i64 l.mrru, .bool l.short, .string l.disc, .int .i64 l.num] 23)) w.heap.size l := Blk.new w 23 l.cells

theorem own_some {w : World} {base : Nat} {e : TypeId} {size n : Nat} {v : Value} {xs : List Value} (h : w.ownsRow base e size v n xs) (hn : 0 < n) :
    ∃ g cap, v = .slice (some ⟨g, 0, none⟩) n cap ∧ base ≤ g ∧ g < w.heap.size ∧ n ≤ cap ∧ cap ≤ maxLen ∧ ∀ j u, xs[j]? = some u → w.cell? ⟨g, j, none⟩ = some u := by
  rcases h.2 with ⟨_, h0⟩ | ⟨g, cap, cur, rfl, hb, hg, hc, hm, _, ht⟩
  · omega
  · refine ⟨g, cap, rfl, hb, (Array.getElem?_eq_some_iff.1 hg).1, hc, hm, fun j u hu => ?_⟩
    have := h.cells (g := g) rfl j u hu
    have e : (⟨g, 0, none⟩ : Addr).add j = ⟨g, j, none⟩ := by unfold Addr.add; split <;> simp_all
    rwa [e] at this

theorem reads_one (w : World) (o : OptD) : Reads (w.alloc (.cells #[.int .i64 o.kind, .string o.data] 79)) (w.alloc (.cells #[.int .i64 o.kind, .string o.data] 79)).heap.size 2 (some ⟨w.heap.size, 0, none⟩) 1 (optCells [o]) := by
  have := reads_new w #[.int .i64 o.kind, .string o.data] 79 2 rfl
  simp only [World.size_alloc]
  exact this

theorem reads_one' (w : World) (o : OptD) (g : Nat) (hg : g = w.heap.size) : Reads (w.alloc (.cells #[.int .i64 o.kind, .string o.data] 79)) (w.alloc (.cells #[.int .i64 o.kind, .string o.data] 79)).heap.size 2 (some ⟨g, 0, none⟩) 1 (optCells [o]) := by
  subst hg
  exact reads_one w o
end Go.Proofs.YthlfghheciamcaaDoor
