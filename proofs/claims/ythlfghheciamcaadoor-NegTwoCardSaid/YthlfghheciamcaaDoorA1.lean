/-
  awake: what every program answers that is one: true.
  Conditions: the variable internal/bytealg.MaxLen holds an int.
-/
import Derived.Test.YthlfghheciamcaaDoorT0
import Derived.Test.YthlfghheciamcaaDoorK4
namespace Go.Proofs.YthlfghheciamcaaDoor
open Go.RowKit
set_option linter.unusedVariables false

def awL : LinkD := ⟨1500, 0, 0, false, emptyB, 0⟩
def aw0 : NegD := newD awL 4
def aw1 : NegD := ⟨1, 0, 4, awL, zeroL, 0, -1, []⟩
def aw2 : NegD := ⟨6, 3, 4, awL, zeroL, 1, 1, [⟨1, ⟨#[5, 220]⟩⟩]⟩
def aw3 : NegD := ⟨8, 3, 4, awL, zeroL, 1, 1, [⟨1, ⟨#[5, 220]⟩⟩]⟩
def awP : PackD := ⟨1, 1, [⟨1, ⟨#[5, 220]⟩⟩], emptyB⟩
def awQ : PackD := ⟨1, 9, [], emptyB⟩
theorem aw_d1 : userDo aw0 2 = (aw1, [], 0) := by kernel_rfl
theorem aw_d2 : userDo aw1 0 = (aw2, [awP], 0) := by kernel_rfl
theorem aw_d3 : userDo aw2 8 = (aw2, [], 1500) := by kernel_rfl
theorem aw_d4 : userDo aw2 0 = (aw2, [], 1501) := by kernel_rfl
theorem aw_t : takeD aw2 awQ = (aw3, [⟨2, 9, [], emptyB⟩], 0) := by kernel_rfl
theorem aw_n : newFits awL 4 = true := by kernel_rfl
theorem aw_n2 : newFits ⟨1, 0, 0, false, emptyB, 0⟩ 4 = false := by kernel_rfl

theorem Do_took (g t : Nat) (v : Value) (n : NegD) (ev : Int) (w : World) (h : NegAt w g t v n) (hm : HasMax w) :
    Calls Tryd.prog 15 #[.pointer (some ⟨g, 0, none⟩), .int .i64 ev] w fun e w' => Took w g t (userDo n ev) e w' :=
  (Do_any g t v n ev w h hm).mono fun _ _ h => ⟨h⟩

/-- the first packet, cell by cell -/
theorem packs_head {w : World} {base : Nat} {V nv : Value} {p : PackD} {ps : List PackD} (h : PacksAt w base V nv (p :: ps)) :
    ∃ b c u, V = .slice (some ⟨b, 0, none⟩) (ps.length + 1) c ∧ base ≤ b ∧ w.cell? ⟨b, 0, none⟩ = some (.int .i64 p.code) ∧ w.cell? ⟨b, 1, none⟩ = some (.int .i64 p.id) ∧ w.cell? ⟨b, 2, none⟩ = some u ∧ w.cell? ⟨b, 3, none⟩ = some (.string p.data) ∧
      w.ownsRow base 79 2 u p.opts.length (optCells p.opts) := by
  obtain ⟨l, hl, hp⟩ := h
  cases l with
  | nil => cases hl
  | cons x l =>
    simp only [List.map_cons, List.cons.injEq] at hl
    obtain ⟨rfl, rfl⟩ := hl
    obtain ⟨g, cq, rfl, hb, _, hncq, hcq, hcell⟩ := own_some hp.row (by simp)
    refine ⟨g, cq, x.2, by simp, hb, hcell 0 _ rfl, hcell 1 _ rfl, hcell 2 _ rfl, hcell 3 _ rfl, hp.rows x (by simp)⟩
theorem packs_cells {w : World} {base b m c : Nat} {nv : Value} {p : PackD} {ps : List PackD} (h : PacksAt w base (.slice (some ⟨b, 0, none⟩) m c) nv (p :: ps)) :
    w.cell? ⟨b, 0, none⟩ = some (.int .i64 p.code) ∧ w.cell? ⟨b, 1, none⟩ = some (.int .i64 p.id) ∧ w.cell? ⟨b, 3, none⟩ = some (.string p.data) ∧
      ∃ u, w.cell? ⟨b, 2, none⟩ = some u ∧ w.ownsRow base 79 2 u p.opts.length (optCells p.opts) := by
  obtain ⟨b', c', u, he, _, h0, h1, h2, h3, ho⟩ := packs_head h
  injection he with e1 _ _
  injection e1 with e1
  injection e1 with e1 _ _
  subst e1
  exact ⟨h0, h1, h3, u, h2, ho⟩
theorem packs_nil {w : World} {base : Nat} {V nv : Value} (h : PacksAt w base V nv []) : ∃ A c, V = .slice A 0 c := by
  obtain ⟨l, hl, hp⟩ := h
  have : l = [] := List.map_eq_nil_iff.1 hl
  subst this
  obtain ⟨A, c, rfl, _⟩ := own_shape hp.row
  exact ⟨A, c, rfl⟩

theorem PacksAt.below {w w' : World} {base : Nat} {V nv : Value} {ps : List PackD} (h : PacksAt w base V nv ps) (hb : Below w.heap.size w w') : PacksAt w' base V nv ps := by
  obtain ⟨l, hl, hp⟩ := h
  exact ⟨l, hl, hp.below hb⟩
theorem PacksAt.neg {w w' : World} {base g t : Nat} {V nv v v' : Value} {ps : List PackD} {n n' : NegD} (h : PacksAt w base V nv ps) (hn : NegAt w g t v n) (hto : NegTo w w' g t v' n') : PacksAt w' base V nv ps := by
  obtain ⟨l, hl, hp⟩ := h
  exact ⟨l, hl, hp.beside hto.grown hn.blk (by decide) (by decide)⟩

set_option maxRecDepth 100000 in
set_option maxHeartbeats 4000000 in
theorem awake_any (w : World) (hm : HasMax w) : Calls Tryd.prog 11 #[] w fun e w' => e = .returned (.bool true) ∧ Below w.heap.size w w' := by
  have HM := Lib.hid hm
  clear hm
  go_enter Tryd.func11, Tryd.ntmps11
  go_wp2_with fail
  refine (New_yes awL 4 w aw_n).mono ?_
  rintro e w1 ⟨g, t, v, rfl, hn1, hb1, hg1⟩
  have N1 := Lib.hid hn1
  have B1 := Lib.hid hb1
  have M1 := Lib.hid (HM.out.below hb1 HM.out.pos)
  clear hn1 hb1
  go_wp2_with (go_at_call 13; refine (num_any _ _).mono ?_; rintro e w' ⟨rfl, rfl⟩)
  have hd := Do_took g t v aw0 2 _ N1.out M1.out
  rw [aw_d1] at hd
  have HDO := Lib.hid hd
  clear hd
  refine HDO.out.mono ?_
  clear HDO
  rintro e w2 ⟨⟨V2, v2, he, hn, hp⟩⟩
  simp only at he hn hp
  subst he
  have N2 := Lib.hid hn.at_
  have M2 := Lib.hid (M1.out.neg N1.out hn)
  have G2 := Lib.hid hn.grown
  clear hn hp
  go_wp2_with fail
  have hd := Do_took g t v2 aw1 0 _ N2.out M2.out
  rw [aw_d2] at hd
  have HDO := Lib.hid hd
  clear hd
  refine HDO.out.mono ?_
  clear HDO
  rintro e w3 ⟨⟨V3, v3, he, hn, hp⟩⟩
  simp only at he hn hp
  subst he
  have N3 := Lib.hid hn.at_
  have M3 := Lib.hid (M2.out.neg N2.out hn)
  have G3 := Lib.hid (grown_row G2.out hn.grown)
  obtain ⟨b3, k3, u3, rfl, hb3, _⟩ := packs_head hp
  have P3 := Lib.hid hp
  clear hn hp hb3
  go_wp2_with fail
  have hd := Do_took g t v3 aw2 8 _ N3.out M3.out
  rw [aw_d3] at hd
  have HDO := Lib.hid hd
  clear hd
  refine HDO.out.mono ?_
  clear HDO
  rintro e w4 ⟨⟨V4, v4, he, hn, hp⟩⟩
  simp only at he hn hp
  subst he
  have N4 := Lib.hid hn.at_
  have M4 := Lib.hid (M3.out.neg N3.out hn)
  have G4 := Lib.hid (grown_row G3.out hn.grown)
  have P4 := Lib.hid (P3.out.neg N3.out hn)
  obtain ⟨A4, k4, rfl⟩ := packs_nil hp
  clear hn hp
  go_wp2_with fail
  have hd := Do_took g t v4 aw2 0 _ N4.out M4.out
  rw [aw_d4] at hd
  have HDO := Lib.hid hd
  clear hd
  refine HDO.out.mono ?_
  clear HDO
  rintro e w5 ⟨⟨V5, v5, he, hn, hp⟩⟩
  simp only at he hn hp
  subst he
  have N5 := Lib.hid hn.at_
  have M5 := Lib.hid (M4.out.neg N4.out hn)
  have G5 := Lib.hid (grown_row G4.out hn.grown)
  have P5 := Lib.hid (P4.out.neg N4.out hn)
  obtain ⟨A5, k5, rfl⟩ := packs_nil hp
  clear hn hp
  go_wp2_with fail
  have hd := Take_took g t v5 aw2 awQ none 0 0 _ N5.out M5.out Reads.none_ rfl (by omega) (fun _ h => by simp [awQ] at h) (by decide)
  rw [aw_t] at hd
  have HDO := Lib.hid hd
  clear hd
  refine HDO.out.mono ?_
  clear HDO
  rintro e w6 ⟨⟨V6, v6, he, hn, hp⟩⟩
  simp only at he hn hp
  subst he
  have N6 := Lib.hid hn.at_
  have G6 := Lib.hid (grown_row G5.out hn.grown)
  have P6 := Lib.hid (P5.out.neg N5.out hn)
  obtain ⟨b6, k6, u6, rfl, hb6, _⟩ := packs_head hp
  have Q6 := Lib.hid hp
  clear hn hp hb6
  go_wp2_with fail
  refine (New_no ⟨1, 0, 0, false, emptyB, 0⟩ 4 _ aw_n2).mono ?_
  rintro e w7 ⟨rfl, hb7⟩
  have N7 := Lib.hid (N6.out.below hb7)
  have B7 := Lib.hid (below_trans' (below_of_only G6.out B1.out hg1) (Nat.le_trans B1.out.size G6.out.size) hb7)
  have x0 : w7.cell? ⟨b3, 0, none⟩ = some (.int .i64 1) := (packs_cells (P6.out.below hb7)).1
  have x1 : w7.cell? ⟨b3, 1, none⟩ = some (.int .i64 1) := (packs_cells (P6.out.below hb7)).2.1
  have y0 : w7.cell? ⟨b6, 0, none⟩ = some (.int .i64 2) := (packs_cells (Q6.out.below hb7)).1
  have y1 : w7.cell? ⟨b6, 1, none⟩ = some (.int .i64 9) := (packs_cells (Q6.out.below hb7)).2.1
  have hst : Calls Tryd.prog 16 #[.pointer (some ⟨g, 0, none⟩)] w7 fun e w' => e = .returned (.int .i64 8) ∧ w7 = w' := State_any g t v6 aw3 w7 N7.out
  have hlf : Calls Tryd.prog 21 #[.pointer (some ⟨g, 0, none⟩)] w7 fun e w' => e = .returned (.int .i64 3) ∧ w7 = w' := Left_any g t v6 aw3 w7 N7.out
  have HST := Lib.hid hst
  have HLF := Lib.hid hlf
  clear hst hlf hb7
  go_wp2_with (first | (go_at_call 13; refine (num_any _ _).mono ?_; rintro e w' ⟨rfl, rfl⟩) | (go_at_call 16; refine HST.out.mono ?_; rintro e w' ⟨rfl, rfl⟩) | (go_at_call 21; refine HLF.out.mono ?_; rintro e w' ⟨rfl, rfl⟩))
  go_ret
  exact ⟨rfl, B7.out⟩
end Go.Proofs.YthlfghheciamcaaDoor
