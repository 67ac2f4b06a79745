/-
  Two sides and their two wires in memory.
  Conditions: as each states.
-/
import Derived.Test.YthlfghheciamcaaDoorZ4
import Derived.Test.YthlfghheciamcaaDoorY5
namespace Go.Proofs.YthlfghheciamcaaDoor
open Go.RowKit
set_option linter.unusedVariables false

theorem TwoAt.onto {B : Nat} {w0 w w' : World} {gx tx gy ty : Nat} {vx vy : Value} {x y : NegD} {b n : Nat} {V : Value} {xs : List Value} (h : TwoAt B w0 w gx tx vx x gy ty vy y) (hV : w.ownsRow b 41 4 V n xs) (hb : B ≤ b) (h0 : 0 < B) (hg : w.grownBy w' V.ownBlock) : TwoAt B w0 w' gx tx vx x gy ty vy y :=
  ⟨h.nx.onto hV hg, h.ny.onto hV hg, h.ne, by
    obtain ⟨m, hm⟩ := h.max
    exact ⟨m, hg.cell hm (fun e => by have := (hV.lt 0 e.symm).1; omega)⟩, h.b.grown hg h.bw (fun k hk => by have := (hV.lt k hk).1; omega), Nat.le_trans h.bw hg.size, h.bx, h.by_⟩
theorem TwoAt.beside {B : Nat} {w0 w w' : World} {gx tx gy ty k : Nat} {vx vy : Value} {x y : NegD} {T : TypeId} {cs : Array Value} (h : TwoAt B w0 w gx tx vx x gy ty vy y) (hg : w.grownBy w' (some k)) (hk : Blk w k T cs) (hB : B ≤ k) (h0 : 0 < B) (h1 : T ≠ 57) (h2 : T ≠ 71) (h3 : T ≠ 79) : TwoAt B w0 w' gx tx vx x gy ty vy y :=
  ⟨h.nx.beside hg hk (hk.ne_ h.nx.blk h1) h2 h3, h.ny.beside hg hk (hk.ne_ h.ny.blk h1) h2 h3, h.ne, by
    obtain ⟨m, hm⟩ := h.max
    exact ⟨m, hg.cell hm (fun e => by injection e with e; simp at e; omega)⟩, h.b.grown hg h.bw (fun j hj => by injection hj with hj; omega), Nat.le_trans h.bw hg.size, h.bx, h.by_⟩
/-- a row of packets behind an append to another -/
theorem Pk.onto {w w' : World} {base base' n : Nat} {V U : Value} {ps : List PackD} {xs : List Value} (h : Pk w base V ps) (hU : w.ownsRow base' 41 4 U n xs) (hap : Apart U V) (hg : w.grownBy w' U.ownBlock) : Pk w' base V ps := by
  obtain ⟨l, hl, hp⟩ := h
  exact ⟨l, hl, hap.kept hp.row hg, fun x hx => own_onto (hp.rows x hx) hU (by decide) hg, hp.apart⟩

structure WiresAt (B : Nat) (w0 w : World) (gn gw gx tx : Nat) (vx : Value) (x : NegD) (gy ty : Nat) (vy : Value) (y : NegD) (V0 V1 : Value) (W0 W1 : List PackD) : Prop where
  two : TwoAt B w0 w gx tx vx x gy ty vy y
  ns : Blk w gn 26 #[.pointer (some ⟨gx, 0, none⟩), .pointer (some ⟨gy, 0, none⟩)]
  wires : Blk w gw 50 #[V0, V1]
  p0 : Pk w B V0 W0
  p1 : Pk w B V1 W1
  ap : Apart V0 V1
  bg : B ≤ gw
  pos : 0 < B
section
variable {B : Nat} {w0 w w' : World} {gn gw gx tx gy ty : Nat} {vx vx' vy vy' V0 V1 V0' V1' : Value} {x x' y y' : NegD} {W0 W1 W0' W1' : List PackD}
theorem WiresAt.below (h : WiresAt B w0 w gn gw gx tx vx x gy ty vy y V0 V1 W0 W1) (k : Below w.heap.size w w') : WiresAt B w0 w' gn gw gx tx vx x gy ty vy y V0 V1 W0 W1 :=
  ⟨h.two.below k, h.ns.below k h.ns.lt, h.wires.below k h.wires.lt, h.p0.below k, h.p1.below k, h.ap, h.bg, h.pos⟩
theorem WiresAt.onX (h : WiresAt B w0 w gn gw gx tx vx x gy ty vy y V0 V1 W0 W1) (k : NegTo w w' gx tx vx' x') : WiresAt B w0 w' gn gw gx tx vx' x' gy ty vy y V0 V1 W0 W1 :=
  ⟨h.two.onX k, h.ns.grown k.grown (by simpa using fun e => (Blk.ne_ h.ns h.two.nx.blk (by decide)) e), h.wires.grown k.grown (by simpa using fun e => (Blk.ne_ h.wires h.two.nx.blk (by decide)) e), h.p0.onX h.two k, h.p1.onX h.two k, h.ap, h.bg, h.pos⟩
theorem WiresAt.onY (h : WiresAt B w0 w gn gw gx tx vx x gy ty vy y V0 V1 W0 W1) (k : NegTo w w' gy ty vy' y') : WiresAt B w0 w' gn gw gx tx vx x gy ty vy' y' V0 V1 W0 W1 :=
  ⟨h.two.onY k, h.ns.grown k.grown (by simpa using fun e => (Blk.ne_ h.ns h.two.ny.blk (by decide)) e), h.wires.grown k.grown (by simpa using fun e => (Blk.ne_ h.wires h.two.ny.blk (by decide)) e), h.p0.onY h.two k, h.p1.onY h.two k, h.ap, h.bg, h.pos⟩
/-- wire 0 is laid anew -/
theorem WiresAt.set0 (h : WiresAt B w0 w gn gw gx tx vx x gy ty vy y V0 V1 W0 W1) (p : Pk w B V0' W0') (ha : Apart V0' V1) : WiresAt B w0 (w.setCell ⟨gw, 0, none⟩ V0') gn gw gx tx vx x gy ty vy y V0' V1 W0' W1 :=
  have hg : w.grownBy (w.setCell ⟨gw, 0, none⟩ V0') (some gw) := only_setCell (World.grownBy.refl w _) (.inl rfl) _
  ⟨h.two.beside hg h.wires h.bg h.pos (by decide) (by decide) (by decide), h.ns.grown hg (by simpa using fun e => (Blk.ne_ h.ns h.wires (by decide)) e), h.wires.set_ 0 V0', p.beside hg h.wires (by decide) (by decide), h.p1.beside hg h.wires (by decide) (by decide), ha, h.bg, h.pos⟩
theorem WiresAt.set1 (h : WiresAt B w0 w gn gw gx tx vx x gy ty vy y V0 V1 W0 W1) (p : Pk w B V1' W1') (ha : Apart V0 V1') : WiresAt B w0 (w.setCell ⟨gw, 1, none⟩ V1') gn gw gx tx vx x gy ty vy y V0 V1' W0 W1' :=
  have hg : w.grownBy (w.setCell ⟨gw, 1, none⟩ V1') (some gw) := only_setCell (World.grownBy.refl w _) (.inl rfl) _
  ⟨h.two.beside hg h.wires h.bg h.pos (by decide) (by decide) (by decide), h.ns.grown hg (by simpa using fun e => (Blk.ne_ h.ns h.wires (by decide)) e), h.wires.set_ 1 V1', h.p0.beside hg h.wires (by decide) (by decide), p.beside hg h.wires (by decide) (by decide), ha, h.bg, h.pos⟩
/-- a row apart from both alone has turned -/
theorem WiresAt.onto {b n : Nat} {V : Value} {xs : List Value} (h : WiresAt B w0 w gn gw gx tx vx x gy ty vy y V0 V1 W0 W1) (hV : w.ownsRow b 41 4 V n xs) (hb : B ≤ b) (hg : w.grownBy w' V.ownBlock) (a0 : Apart V V0) (a1 : Apart V V1) : WiresAt B w0 w' gn gw gx tx vx x gy ty vy y V0 V1 W0 W1 :=
  ⟨h.two.onto hV hb h.pos hg, blk_onto h.ns hV (by decide) hg, blk_onto h.wires hV (by decide) hg, h.p0.onto hV a0 hg, h.p1.onto hV a1 hg, h.ap, h.bg, h.pos⟩
/-- wire 1 grows, and is laid anew -/
theorem WiresAt.more1 {W1' : List PackD} (h : WiresAt B w0 w gn gw gx tx vx x gy ty vy y V0 V1 W0 W1) (hg : w.grownBy w' V1.ownBlock) (p : Pk w' B V1' W1') (hat : V1'.ownBlock = V1.ownBlock ∨ V1'.ownBlock = some w.heap.size) : WiresAt B w0 (w'.setCell ⟨gw, 1, none⟩ V1') gn gw gx tx vx x gy ty vy y V0 V1' W0 W1' := by
  obtain ⟨l, hl, hp⟩ := h.p1
  have hwi := blk_onto h.wires hp.row (by decide) hg
  have hg2 : w'.grownBy (w'.setCell ⟨gw, 1, none⟩ V1') (some gw) := only_setCell (World.grownBy.refl w' _) (.inl rfl) _
  have ht := h.two.onto hp.row (Nat.le_refl _) h.pos hg
  refine ⟨ht.beside hg2 hwi h.bg h.pos (by decide) (by decide) (by decide), (blk_onto h.ns hp.row (by decide) hg).grown hg2 (by simpa using fun e => (Blk.ne_ h.ns h.wires (by decide)) e), hwi.set_ 1 V1', (h.p0.onto hp.row h.ap.symm hg).beside hg2 hwi (by decide) (by decide), p.beside hg2 hwi (by decide) (by decide), ?_, h.bg, h.pos⟩
  obtain ⟨l0, hl0, hp0⟩ := h.p0
  intro g hg0 hg1
  rcases hat with he | he
  · exact h.ap g hg0 (by rw [← he]; exact hg1)
  · rw [he] at hg1
    injection hg1 with hg1
    have := (hp0.row.lt g hg0).2
    omega
theorem WiresAt.more0 {W0' : List PackD} (h : WiresAt B w0 w gn gw gx tx vx x gy ty vy y V0 V1 W0 W1) (hg : w.grownBy w' V0.ownBlock) (p : Pk w' B V0' W0') (hat : V0'.ownBlock = V0.ownBlock ∨ V0'.ownBlock = some w.heap.size) : WiresAt B w0 (w'.setCell ⟨gw, 0, none⟩ V0') gn gw gx tx vx x gy ty vy y V0' V1 W0' W1 := by
  obtain ⟨l, hl, hp⟩ := h.p0
  have hwi := blk_onto h.wires hp.row (by decide) hg
  have hg2 : w'.grownBy (w'.setCell ⟨gw, 0, none⟩ V0') (some gw) := only_setCell (World.grownBy.refl w' _) (.inl rfl) _
  have ht := h.two.onto hp.row (Nat.le_refl _) h.pos hg
  refine ⟨ht.beside hg2 hwi h.bg h.pos (by decide) (by decide) (by decide), (blk_onto h.ns hp.row (by decide) hg).grown hg2 (by simpa using fun e => (Blk.ne_ h.ns h.wires (by decide)) e), hwi.set_ 0 V0', p.beside hg2 hwi (by decide) (by decide), (h.p1.onto hp.row h.ap hg).beside hg2 hwi (by decide) (by decide), ?_, h.bg, h.pos⟩
  obtain ⟨l1, hl1, hp1⟩ := h.p1
  intro g hg0 hg1
  rcases hat with he | he
  · exact h.ap g (by rw [← he]; exact hg0) hg1
  · rw [he] at hg0
    injection hg0 with hg0
    have := (hp1.row.lt g hg1).2
    omega
end
end Go.Proofs.YthlfghheciamcaaDoor
