/-
  What every program answers that is one: the law's own first look at package policy.
  Conditions: none.
-/
import Derived.Test.YthlfghheciamcaaK8
namespace Go.Proofs.Ythlfghheciamcaa
open Go.RowKit
set_option linter.unusedVariables false

structure LinkCells (w : World) (b : Nat) (l : LinkD) : Prop where
  c0 : w.cell? ⟨b, 0, none⟩ = some (.int .i64 l.mru)
  c1 : w.cell? ⟨b, 1, none⟩ = some (.int .i64 l.magic)
  c2 : w.cell? ⟨b, 2, none⟩ = some (.int .i64 l.mrru)
  c3 : w.cell? ⟨b, 3, none⟩ = some (.bool l.short)
  c4 : w.cell? ⟨b, 4, none⟩ = some (.string l.disc)
  c5 : w.cell? ⟨b, 5, none⟩ = some (.int .i64 l.num)
def LinkAt (w : World) (b : Nat) (l : LinkD) : Prop := Blk w b 23 l.cells
theorem LinkAt.cells {w : World} {b : Nat} {l : LinkD} (h : LinkAt w b l) : LinkCells w b l :=
  ⟨Blk.cell h 0, Blk.cell h 1, Blk.cell h 2, Blk.cell h 3, Blk.cell h 4, Blk.cell h 5⟩
theorem LinkAt.below {w w' : World} {b : Nat} {l : LinkD} (h : LinkAt w b l) (hb : Below w.heap.size w w') : LinkAt w' b l := Blk.below h hb (Blk.lt h)
theorem LinkAt.alloc {w : World} {b : Nat} {l : LinkD} (h : LinkAt w b l) (o : Obj) : LinkAt (w.alloc o) b l := Blk.alloc h o
theorem LinkAt.new (w : World) (l : LinkD) : LinkAt (w.alloc (.cells #[.int .i64 l.mru, .int .i64 l.magic, .int .i64 l.mrru, .bool l.short, .string l.disc, .int .i64 l.num] 23)) w.heap.size l := Blk.new w 23 l.cells

theorem own_some {w : World} {base : Nat} {e : TypeId} {size n : Nat} {v : Value} {xs : List Value} (h : w.ownsRow base e size v n xs) (hn : 0 < n) :
    ∃ g cap, v = .slice (some ⟨g, 0, none⟩) n cap ∧ base ≤ g ∧ g < w.heap.size ∧ n ≤ cap ∧ cap ≤ maxLen ∧ ∀ j u, xs[j]? = some u → w.cell? ⟨g, j, none⟩ = some u := by
  rcases h.2 with ⟨_, h0⟩ | ⟨g, cap, cur, rfl, hb, hg, hc, hm, _, ht⟩
  · omega
  · refine ⟨g, cap, rfl, hb, (Array.getElem?_eq_some_iff.1 hg).1, hc, hm, fun j u hu => ?_⟩
    have := h.cells (g := g) rfl j u hu
    have e : (⟨g, 0, none⟩ : Addr).add j = ⟨g, j, none⟩ := by unfold Addr.add; split <;> simp_all
    rwa [e] at this

def ownW : LinkD := ⟨1500, 7, 0, false, ⟨#[]⟩, 0⟩
theorem aw_ask : ownW.ask = [⟨1, ⟨#[5, 220]⟩⟩, ⟨5, ⟨#[0, 0, 0, 7]⟩⟩] := by decide +kernel
theorem aw_may : ownW.may = true := by decide +kernel
theorem aw_j1 : judgeD ownW [⟨5, ⟨#[0, 0, 0, 7]⟩⟩] = (1, [⟨5, ⟨#[255, 255, 255, 248]⟩⟩], 0) := by decide +kernel
theorem aw_j2 : judgeD ownW [⟨18, ⟨#[]⟩⟩] = (2, [⟨18, ⟨#[]⟩⟩], 0) := by decide +kernel
theorem aw_l : learnD ownW 4 [⟨1, ⟨#[120, 120]⟩⟩] = (⟨0, 7, 0, false, ⟨#[]⟩, 0⟩, 0) := by decide +kernel
theorem aw_t : takenD [⟨1, ⟨#[5, 220]⟩⟩, ⟨5, ⟨#[0, 0, 0, 7]⟩⟩] = (ownW, 0) := by decide +kernel
theorem aw_m : (⟨1, 0, 0, false, ⟨#[]⟩, 0⟩ : LinkD).may = false := by decide +kernel

theorem reads_one (w : World) (o : OptD) : Reads (w.alloc (.cells #[.int .i64 o.kind, .string o.data] 36)) (w.alloc (.cells #[.int .i64 o.kind, .string o.data] 36)).heap.size 2 (some ⟨w.heap.size, 0, none⟩) 1 (optCells [o]) := by
  have := reads_new w #[.int .i64 o.kind, .string o.data] 36 2 rfl
  simp only [World.size_alloc]
  exact this

theorem aw_l1 : (learnD ownW 4 [⟨1, ⟨#[120, 120]⟩⟩]).1 = ⟨0, 7, 0, false, ⟨#[]⟩, 0⟩ := by rw [aw_l]
theorem aw_eq1 : LinkD.eqB ⟨0, 7, 0, false, ⟨#[]⟩, 0⟩ ⟨0, 7, 0, false, ⟨#[]⟩, 0⟩ = true := by decide +kernel
theorem aw_eq2 : LinkD.eqB ownW ownW = true := by decide +kernel

set_option maxRecDepth 100000 in
set_option maxHeartbeats 4000000 in
theorem awake_any (w : World) : Calls Try.prog 9 #[] w fun e w' => e = .returned (.bool true) ∧ Below w.heap.size w w' := by
  go_enter Try.func9, Try.ntmps9
  go_wp2_with fail
  have hl := Lib.hid (LinkAt.new w ownW)
  have hb := Lib.hid ((Below.refl w.heap.size w).alloc (Nat.le_refl _) (.cells #[.int .i64 1500, .int .i64 7, .int .i64 0, .bool false, .string ⟨#[]⟩, .int .i64 0] 23))
  -- Ask
  refine (ask_yes ownW _ aw_may).mono ?_
  rintro e w1 ⟨v1, rfl, hk1⟩
  have own1 := hk1.own
  rw [aw_ask] at own1
  obtain ⟨g1, cap1, rfl, hg1, hgl1, hnc1, hm1, hcell1⟩ := own_some own1 (by simp)
  have hl1 := Lib.hid (hl.out.below hk1.below)
  have hb1 := Lib.hid (below_trans' hb.out hb.out.size hk1.below)
  have OWN1 := Lib.hid own1
  have hcap1 : 2 ≤ cap1 := hnc1
  clear hk1 own1 hl hb hcell1 hnc1 hg1 hgl1
  obtain ⟨c0, c1, c2, c3, c4, c5⟩ := hl1.out.cells
  -- Judge
  have hj1 := judge_any ownW (some ⟨w1.heap.size, 0, none⟩) 1 1 [⟨5, ⟨#[0, 0, 0, 7]⟩⟩] (w1.alloc (.cells #[.int .i64 5, .string ⟨#[0, 0, 0, 7]⟩] 36)) (reads_one w1 ⟨5, ⟨#[0, 0, 0, 7]⟩⟩) rfl (by omega) (by omega)
  rw [aw_j1] at hj1
  have HJ1 := Lib.hid hj1
  clear hj1
  go_wp2_with fail
  refine HJ1.out.mono ?_
  rintro e w2 ⟨v2, rfl, hk2⟩
  have own2 := hk2.own
  rw [aw_j1] at own2
  obtain ⟨g2, cap2, rfl, hg2, hgl2, hnc2, hm2, hcell2⟩ := own_some own2 (by simp)
  have hl2 := Lib.hid ((hl1.out.alloc _).below hk2.below)
  have hb2 := Lib.hid (below_trans' (hb1.out.alloc hb1.out.size _) (by have := hb1.out.size; simp; omega) hk2.below)
  have OWN1b := Lib.hid (own_below (OWN1.out.alloc _) hk2.below)
  have OWN2 := Lib.hid own2
  have hcap2 : 1 ≤ cap2 := hnc2
  clear c0 c1 c2 c3 c4 c5 hk2 own2 hl1 hb1 OWN1 HJ1 hcell2 hnc2 hg2 hgl2
  obtain ⟨c0, c1, c2, c3, c4, c5⟩ := hl2.out.cells
  -- Judge
  have hj1 := judge_any ownW (some ⟨w2.heap.size, 0, none⟩) 1 1 [⟨18, ⟨#[]⟩⟩] (w2.alloc (.cells #[.int .i64 18, .string ⟨#[]⟩] 36)) (reads_one w2 ⟨18, ⟨#[]⟩⟩) rfl (by omega) (by omega)
  rw [aw_j2] at hj1
  have HJ1 := Lib.hid hj1
  clear hj1
  go_wp2_with fail
  refine HJ1.out.mono ?_
  rintro e w3 ⟨v3, rfl, hk3⟩
  have own3 := hk3.own
  rw [aw_j2] at own3
  obtain ⟨g3, cap3, rfl, hg3⟩ := own_some own3 (by simp)
  clear hg3
  have hl3 := Lib.hid ((hl2.out.alloc _).below hk3.below)
  have hb3 := Lib.hid (below_trans' (hb2.out.alloc hb2.out.size _) (by have := hb2.out.size; simp; omega) hk3.below)
  have OWN1 := Lib.hid (own_below (OWN1b.out.alloc _) hk3.below)
  have OWN2b := Lib.hid (own_below (OWN2.out.alloc _) hk3.below)
  clear c0 c1 c2 c3 c4 c5 hk3 own3 hl2 hb2 OWN1b OWN2 HJ1
  obtain ⟨c0, c1, c2, c3, c4, c5⟩ := hl3.out.cells
  -- Learn
  have hj1 := learn_call ownW 4 (some ⟨w3.heap.size, 0, none⟩) 1 1 [⟨1, ⟨#[120, 120]⟩⟩] (w3.alloc (.cells #[.int .i64 1, .string ⟨#[120, 120]⟩] 36)) (reads_one w3 ⟨1, ⟨#[120, 120]⟩⟩) rfl (by omega) (by intro o ho; simp at ho; subst ho; decide)
  rw [aw_l] at hj1
  have HJ1 := Lib.hid hj1
  clear hj1
  go_wp2_with fail
  refine HJ1.out.mono ?_
  rintro e w4 ⟨rfl, hk4⟩
  have hl4 := Lib.hid ((hl3.out.alloc _).below hk4)
  have hb4 := Lib.hid (below_trans' (hb3.out.alloc hb3.out.size _) (by have := hb3.out.size; simp; omega) hk4)
  have OWN1b := Lib.hid (own_below (OWN1.out.alloc _) hk4)
  have OWN2 := Lib.hid (own_below (OWN2b.out.alloc _) hk4)
  clear c0 c1 c2 c3 c4 c5 hk4 hl3 hb3 OWN1 OWN2b HJ1
  simp only [LinkD.cells]
  -- Taken
  have hlA := LinkAt.new w4 ⟨0, 7, 0, false, ⟨#[]⟩, 0⟩
  have OWNc := own_below (OWN1b.out.alloc (.cells #[.int .i64 0, .int .i64 7, .int .i64 0, .bool false, .string ⟨#[]⟩, .int .i64 0] 23)) (Below.refl _ _)
  have hj1 := taken_any [⟨1, ⟨#[5, 220]⟩⟩, ⟨5, ⟨#[0, 0, 0, 7]⟩⟩] (some ⟨g1, 0, none⟩) 2 cap1 (w4.alloc (.cells #[.int .i64 0, .int .i64 7, .int .i64 0, .bool false, .string ⟨#[]⟩, .int .i64 0] 23)) (Reads.of_own OWNc) rfl (by omega) hcap1 (by intro o ho; simp at ho; rcases ho with rfl | rfl <;> decide)
  rw [aw_t] at hj1
  have HJ1 := Lib.hid hj1
  have HLA := Lib.hid hlA
  clear hj1 hlA OWNc
  go_wp2_with fail
  refine HJ1.out.mono ?_
  rintro e w5 ⟨rfl, hk5⟩
  have hl5 := Lib.hid ((hl4.out.alloc _).below hk5)
  have hlA5 := Lib.hid (HLA.out.below hk5)
  have hb5 := Lib.hid (below_trans' (hb4.out.alloc hb4.out.size _) (by have := hb4.out.size; simp; omega) hk5)
  have OWN2b := Lib.hid (own_below (OWN2.out.alloc _) hk5)
  have hlB := Lib.hid (LinkAt.new w5 ownW)
  have hzA := hlA5.out.lt
  clear hk5 hl4 hb4 OWN1b OWN2 HJ1 HLA
  simp only [LinkD.cells]
  -- Ask
  go_wp2_with fail
  refine (ask_no ⟨1, 0, 0, false, ⟨#[]⟩, 0⟩ _ aw_m).mono ?_
  rintro e w6 ⟨rfl, hk6⟩
  have hl6 := (hl5.out.alloc (.cells #[.int .i64 ownW.mru, .int .i64 ownW.magic, .int .i64 ownW.mrru, .bool ownW.short, .string ownW.disc, .int .i64 ownW.num] 23)).below hk6.below
  have hA6 := (hlA5.out.alloc (.cells #[.int .i64 ownW.mru, .int .i64 ownW.magic, .int .i64 ownW.mrru, .bool ownW.short, .string ownW.disc, .int .i64 ownW.num] 23)).below hk6.below
  have hB6 := hlB.out.below hk6.below
  have own6 := own_below (OWN2b.out.alloc (.cells #[.int .i64 ownW.mru, .int .i64 ownW.magic, .int .i64 ownW.mrru, .bool ownW.short, .string ownW.disc, .int .i64 ownW.num] 23)) hk6.below
  have hb6 := Lib.hid (below_trans' (hb5.out.alloc hb5.out.size _) (by have := hb5.out.size; simp; omega) hk6.below)
  have d1 : w6.cell? ⟨g2, 1, none⟩ = some (.string ⟨#[255, 255, 255, 248]⟩) := own6.cells (g := g2) rfl 1 _ rfl
  have a0 : w6.cell? ⟨w4.heap.size, 0, none⟩ = some (.int .i64 0) := hA6.cells.c0
  have a1 : w6.cell? ⟨w4.heap.size, 1, none⟩ = some (.int .i64 7) := hA6.cells.c1
  have a2 : w6.cell? ⟨w4.heap.size, 2, none⟩ = some (.int .i64 0) := hA6.cells.c2
  have a3 : w6.cell? ⟨w4.heap.size, 3, none⟩ = some (.bool false) := hA6.cells.c3
  have a4 : w6.cell? ⟨w4.heap.size, 4, none⟩ = some (.string ⟨#[]⟩) := hA6.cells.c4
  have a5 : w6.cell? ⟨w4.heap.size, 5, none⟩ = some (.int .i64 0) := hA6.cells.c5
  have b0 : w6.cell? ⟨w5.heap.size, 0, none⟩ = some (.int .i64 1500) := hB6.cells.c0
  have b1 : w6.cell? ⟨w5.heap.size, 1, none⟩ = some (.int .i64 7) := hB6.cells.c1
  have b2 : w6.cell? ⟨w5.heap.size, 2, none⟩ = some (.int .i64 0) := hB6.cells.c2
  have b3 : w6.cell? ⟨w5.heap.size, 3, none⟩ = some (.bool false) := hB6.cells.c3
  have b4 : w6.cell? ⟨w5.heap.size, 4, none⟩ = some (.string ⟨#[]⟩) := hB6.cells.c4
  have b5 : w6.cell? ⟨w5.heap.size, 5, none⟩ = some (.int .i64 0) := hB6.cells.c5
  have o0 : w6.cell? ⟨w.heap.size, 0, none⟩ = some (.int .i64 1500) := hl6.cells.c0
  have o1 : w6.cell? ⟨w.heap.size, 1, none⟩ = some (.int .i64 7) := hl6.cells.c1
  have o2 : w6.cell? ⟨w.heap.size, 2, none⟩ = some (.int .i64 0) := hl6.cells.c2
  have o3 : w6.cell? ⟨w.heap.size, 3, none⟩ = some (.bool false) := hl6.cells.c3
  have o4 : w6.cell? ⟨w.heap.size, 4, none⟩ = some (.string ⟨#[]⟩) := hl6.cells.c4
  have o5 : w6.cell? ⟨w.heap.size, 5, none⟩ = some (.int .i64 0) := hl6.cells.c5
  have q1 : ∀ w, (binOp .eql 23 (.agg #[.int .i64 0, .int .i64 7, .int .i64 0, .bool false, .string ⟨#[]⟩, .int .i64 0]) (.agg #[.int .i64 0, .int .i64 7, .int .i64 0, .bool false, .string ⟨#[]⟩, .int .i64 0])).run Try.prog w = .ok (.bool true) w := fun w => by
    have := link_eql ⟨0, 7, 0, false, ⟨#[]⟩, 0⟩ ⟨0, 7, 0, false, ⟨#[]⟩, 0⟩ w
    rw [aw_eq1] at this; exact this
  have q2 : ∀ w, (binOp .eql 23 (.agg #[.int .i64 1500, .int .i64 7, .int .i64 0, .bool false, .string ⟨#[]⟩, .int .i64 0]) (.agg #[.int .i64 1500, .int .i64 7, .int .i64 0, .bool false, .string ⟨#[]⟩, .int .i64 0])).run Try.prog w = .ok (.bool true) w := fun w => by
    have := link_eql ownW ownW w
    rw [aw_eq2] at this; exact this
  clear hl5 hlA5 hb5 OWN2b hlB hk6 hl6 hA6 hB6 own6
  go_wp2_with (go_at_call 11; refine (num_any _ _).mono ?_; rintro e w' ⟨rfl, rfl⟩)
  go_ret
  exact ⟨rfl, hb6.out⟩
end Go.Proofs.Ythlfghheciamcaa
