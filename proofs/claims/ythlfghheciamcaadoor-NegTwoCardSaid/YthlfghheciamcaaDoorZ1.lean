/-
  Two sides in memory, and rows of packets that come and go between them.
  Conditions: as each states.
-/
import Derived.Test.YthlfghheciamcaaDoorY3
namespace Go.Proofs.YthlfghheciamcaaDoor
open Go.RowKit
set_option linter.unusedVariables false

/-- no slice -/
def nilS : Value := .slice none 0 0
theorem nilS_apart (u : Value) : Apart u nilS := fun g _ h => by simp [nilS, Value.ownBlock] at h
/-- packets in memory, apart from nothing -/
def Pk (w : World) (base : Nat) (V : Value) (ps : List PackD) : Prop := PacksAt w base V nilS ps
theorem PacksAt.pk {w : World} {base : Nat} {V nv : Value} {ps : List PackD} (h : PacksAt w base V nv ps) : Pk w base V ps := by
  obtain ⟨l, hl, hp⟩ := h
  exact ⟨l, hl, hp.row, hp.rows, fun x _ => nilS_apart _⟩
theorem Pk.nil (w : World) (base : Nat) : Pk w base (.slice none 0 0) [] := ⟨[], rfl, World.ownsRow_nil _ _ _ _, fun _ h => by simp at h, fun _ h => by simp at h⟩
theorem Pk.below {w w' : World} {base : Nat} {V : Value} {ps : List PackD} (h : Pk w base V ps) (hb : Below w.heap.size w w') : Pk w' base V ps := by
  obtain ⟨l, hl, hp⟩ := h
  exact ⟨l, hl, hp.below hb⟩
theorem Pk.beside {w w' : World} {base k : Nat} {V : Value} {ps : List PackD} {T : TypeId} {cs : Array Value} (h : Pk w base V ps) (hb : w.grownBy w' (some k)) (hk : Blk w k T cs) (ht : T ≠ 41) (hv : T ≠ 79) : Pk w' base V ps := by
  obtain ⟨l, hl, hp⟩ := h
  exact ⟨l, hl, hp.beside hb hk ht hv⟩
theorem Pk.base {w : World} {base base' : Nat} {V : Value} {ps : List PackD} (h : Pk w base V ps) (hb : base' ≤ base) : Pk w base' V ps := by
  obtain ⟨l, hl, hp⟩ := h
  exact ⟨l, hl, hp.base hb⟩
theorem Pk.shape {w : World} {base : Nat} {V : Value} {ps : List PackD} (h : Pk w base V ps) : ∃ A c, V = .slice A ps.length c ∧ ps.length ≤ c := by
  obtain ⟨l, rfl, hp⟩ := h
  obtain ⟨A, c, e, hc, _⟩ := own_shape hp.row
  rw [List.length_map]
  exact ⟨A, c, e, hc⟩

theorem packCells_length (l : List (PackD × Value)) : (packCells l).length = l.length * 4 := by
  induction l with
  | nil => rfl
  | cons x l ih => simp only [packCells, List.flatMap_cons, List.length_append, List.length_cons, List.length_nil] at ih ⊢; omega
theorem packCells_cons (x : PackD × Value) (l : List (PackD × Value)) : packCells (x :: l) = .int .i64 x.1.code :: .int .i64 x.1.id :: x.2 :: .string x.1.data :: packCells l := rfl
theorem packCells_at : ∀ (l : List (PackD × Value)) (k : Nat) (h : k < l.length), (packCells l)[k * 4]? = some (.int .i64 (l[k]'h).1.code) ∧ (packCells l)[k * 4 + 1]? = some (.int .i64 (l[k]'h).1.id) ∧ (packCells l)[k * 4 + 2]? = some (l[k]'h).2 ∧ (packCells l)[k * 4 + 3]? = some (.string (l[k]'h).1.data)
  | x :: l, 0, _ => by rw [packCells_cons]; exact ⟨rfl, rfl, rfl, rfl⟩
  | x :: l, k + 1, h => by
    have ih := packCells_at l k (by simpa using h)
    rw [packCells_cons, show (k + 1) * 4 = k * 4 + 1 + 1 + 1 + 1 by omega]
    simpa using ih
/-- the k-th packet of a row, cell by cell -/
structure PackK (w : World) (ad : Addr) (k : Nat) (p : PackD) (A : Option Addr) (c : Nat) : Prop where
  c0 : w.cell? (ad.add (k * 4)) = some (.int .i64 p.code)
  c1 : w.cell? ⟨(ad.add (k * 4)).block, (ad.add (k * 4)).off + 1, none⟩ = some (.int .i64 p.id)
  c2 : w.cell? ⟨(ad.add (k * 4)).block, (ad.add (k * 4)).off + 2, none⟩ = some (.slice A p.opts.length c)
  c3 : w.cell? ⟨(ad.add (k * 4)).block, (ad.add (k * 4)).off + 3, none⟩ = some (.string p.data)
  reads : Reads w w.heap.size 2 A p.opts.length (optCells p.opts)
theorem Pk.at_ {w : World} {base m c : Nat} {A : Option Addr} {ps : List PackD} (h : Pk w base (.slice A m c) ps) (k : Nat) (hk : k < ps.length) : ∃ ad B d, A = some ad ∧ PackK w ad k (ps[k]'hk) B d := by
  obtain ⟨l, rfl, hp⟩ := h
  have hk' : k < l.length := by simpa using hk
  obtain ⟨A', c', e, _, _, hb⟩ := own_shape hp.row
  injection e with e1 e2 e3
  subst e1 e2 e3
  obtain ⟨ad, hA, hbl, hx⟩ := (Reads.of_own hp.row).2 (by omega)
  subst hA
  obtain ⟨x0, x1, x2, x3⟩ := packCells_at l k hk'
  have hr := hp.rows _ (List.getElem_mem hk')
  obtain ⟨B, d, eB, _, _, _⟩ := own_shape hr
  rw [eB] at x2 hr
  simp only [List.getElem_map]
  refine ⟨ad, B, d, rfl, hx _ _ x0, ?_, ?_, ?_, Reads.of_own hr⟩
  · rw [← add_field ad (k * 4) 1 (by omega)]; exact hx _ _ x1
  · rw [← add_field ad (k * 4) 2 (by omega)]; exact hx _ _ x2
  · rw [← add_field ad (k * 4) 3 (by omega)]; exact hx _ _ x3
theorem packCells_one {w : World} {base : Nat} {V nv : Value} {l : List (PackD × Value)} (h : PacksIn w base V nv l) : ∀ u ∈ packCells l, u.oneCell' = true := by
  intro u hu
  simp only [packCells, List.mem_flatMap] at hu
  obtain ⟨x, hx, hu⟩ := hu
  obtain ⟨B, d, eB, _⟩ := own_shape (h.rows x hx)
  rw [eB] at hu
  simp only [List.mem_cons, List.not_mem_nil, or_false] at hu
  rcases hu with rfl | rfl | rfl | rfl <;> rfl
/-- a row of packets behind an append -/
theorem PacksIn.joined {w1 w' : World} {base base' : Nat} {V V' U nv : Value} {l l2 : List (PackD × Value)} (h : PacksIn w1 base V nilS l) (h2 : PacksIn w1 base' U nv l2) (hb : base ≤ base') (hg : w1.grownBy w' V.ownBlock)
    (hrow : w'.ownsRow base 41 4 V' (l.length + l2.length) (packCells l ++ packCells l2)) : PacksIn w' base V' nilS (l ++ l2) := by
  refine ⟨?_, ?_, fun x _ => nilS_apart _⟩
  · rw [packCells_append, List.length_append]; exact hrow
  · intro x hx
    rcases List.mem_append.1 hx with hx | hx
    · exact own_onto (h.rows x hx) h.row (by decide) hg
    · exact own_onto (own_base (h2.rows x hx) hb) h.row (by decide) hg

/-- more packets taken: no fewer sent -/
theorem takeAll_mono (n : NegD) (ps qs : List PackD) : (takeAll n ps).2.length ≤ (takeAll n (ps ++ qs)).2.length := by
  induction qs generalizing ps with
  | nil => simp
  | cons q qs ih =>
    have := ih (ps ++ [q])
    rw [takeAll_snoc] at this
    simp only [List.length_append, List.append_assoc, List.singleton_append] at this ⊢
    omega
theorem takeAll_len (n : NegD) (ps : List PackD) (k : Nat) : (takeAll n (ps.take k)).2.length ≤ (takeAll n ps).2.length := by
  have := takeAll_mono n (ps.take k) (ps.drop k)
  rwa [List.take_append_drop] at this

/-- two sides in memory -/
structure TwoAt (B : Nat) (w0 w : World) (gx tx : Nat) (vx : Value) (x : NegD) (gy ty : Nat) (vy : Value) (y : NegD) : Prop where
  nx : NegAt w gx tx vx x
  ny : NegAt w gy ty vy y
  ne : gx ≠ gy
  max : HasMax w
  b : Below B w0 w
  bw : B ≤ w.heap.size
  bx : B ≤ gx
  by_ : B ≤ gy
section
variable {B : Nat} {w0 w w' : World} {gx tx gy ty : Nat} {vx vx' vy vy' : Value} {x x' y y' : NegD}
theorem TwoAt.swap (h : TwoAt B w0 w gx tx vx x gy ty vy y) : TwoAt B w0 w gy ty vy y gx tx vx x := ⟨h.ny, h.nx, h.ne.symm, h.max, h.b, h.bw, h.by_, h.bx⟩
theorem TwoAt.onX (h : TwoAt B w0 w gx tx vx x gy ty vy y) (k : NegTo w w' gx tx vx' x') : TwoAt B w0 w' gx tx vx' x' gy ty vy y :=
  ⟨k.at_, h.ny.beside k.grown h.nx.blk h.ne (by decide) (by decide), h.ne, h.max.neg h.nx k, h.b.grown k.grown h.bw (fun j hj => by injection hj with hj; subst hj; exact h.bx), Nat.le_trans h.bw k.grown.size, h.bx, h.by_⟩
theorem TwoAt.onY (h : TwoAt B w0 w gx tx vx x gy ty vy y) (k : NegTo w w' gy ty vy' y') : TwoAt B w0 w' gx tx vx x gy ty vy' y' := (h.swap.onX k).swap
theorem TwoAt.below (h : TwoAt B w0 w gx tx vx x gy ty vy y) (k : Below w.heap.size w w') : TwoAt B w0 w' gx tx vx x gy ty vy y :=
  ⟨h.nx.below k, h.ny.below k, h.ne, h.max.below k h.max.pos, below_trans' h.b h.bw k, Nat.le_trans h.bw k.size, h.bx, h.by_⟩
theorem Pk.onX {base : Nat} {V : Value} {ps : List PackD} (p : Pk w base V ps) (h : TwoAt B w0 w gx tx vx x gy ty vy y) (k : NegTo w w' gx tx vx' x') : Pk w' base V ps := p.beside k.grown h.nx.blk (by decide) (by decide)
theorem Pk.onY {base : Nat} {V : Value} {ps : List PackD} (p : Pk w base V ps) (h : TwoAt B w0 w gx tx vx x gy ty vy y) (k : NegTo w w' gy ty vy' y') : Pk w' base V ps := p.beside k.grown h.ny.blk (by decide) (by decide)
end
end Go.Proofs.YthlfghheciamcaaDoor
