/-
  The contract of event: which event a packet is.
  Conditions: as each states.
-/
import Derived.Test.YthlfghheciamcaaDoorH1
namespace Go.Proofs.YthlfghheciamcaaDoor
open Go.RowKit
set_option linter.unusedVariables false

theorem learn_any' (l : LinkD) (code : Int) (hcode : code = 3 ∨ code = 4) (A : Option Addr) (n c : Nat) (os : List OptD) (w : World) (hr : Reads w w.heap.size 2 A n (optCells os)) (hn : os.length = n) (hn2 : n ≤ 9223372036854775806)
    (hd : ∀ o ∈ os, o.data.size ≤ 140737488351232) :
    Calls Tryd.prog 41 #[.agg #[.int .i64 l.mru, .int .i64 l.magic, .int .i64 l.mrru, .bool l.short, .string l.disc, .int .i64 l.num], .int .i64 code, .slice A n c] w fun e w' =>
      e = .returned (.tuple #[.agg (learnD l code os).1.cells, .int .i64 (learnD l code os).2]) ∧ Below w.heap.size w w' := by
  cases hm : l.may with
  | false => exact learn_no l code A n c os w (by rw [hm]; rfl)
  | true =>
    rcases hcode with rfl | rfl
    · have e : learnD l 3 os = (l.learnAll true os, 0) := by unfold learnD; rw [hm]; rfl
      rw [e]; exact learn_nak l A n c os w hm hr hn hn2 hd
    · have e : learnD l 4 os = (l.learnAll false os, 0) := by unfold learnD; rw [hm]; rfl
      rw [e]; exact learn_rej l A n c os w hm hr hn hn2 hd

theorem numB_size (x : Int) (k : Nat) : (numB x k).size = k := by
  show (numL x k).toArray.size = k
  simp [numL_length]
theorem betterD_size (l : LinkD) (o : OptD) (B : Nat) (hB : 4 ≤ B) (h : o.data.size ≤ B) : (betterD l o).1.data.size ≤ B := by
  unfold betterD
  split
  · simp only [numB_size]; omega
  · split
    · simp only [numB_size]; omega
    · split
      · simp only [numB_size]; omega
      · exact h
theorem judgeGo_fit (own : LinkD) (B : Nat) (hB : 4 ≤ B) : ∀ (os pre bad bet : List OptD) (R : List OptD × List OptD), judgeGo own pre os bad bet = some R → (∀ o ∈ os, o.data.size ≤ B) → (∀ o ∈ bad, o.data.size ≤ B) → (∀ o ∈ bet, o.data.size ≤ B) →
    R.1.length ≤ bad.length + os.length ∧ R.2.length ≤ bet.length + os.length ∧ (∀ o ∈ R.1, o.data.size ≤ B) ∧ (∀ o ∈ R.2, o.data.size ≤ B)
  | [], pre, bad, bet, R, h, _, hb, ht => by
    simp only [judgeGo] at h
    injection h with h
    subst h
    exact ⟨by simp, by simp, hb, ht⟩
  | o :: os, pre, bad, bet, R, h, ho, hb, ht => by
    have ho1 := ho o (by simp)
    have ho2 : ∀ x ∈ os, x.data.size ≤ B := fun x hx => ho x (by simp [hx])
    simp only [judgeGo] at h
    split at h
    · split at h
      · have := judgeGo_fit own B hB os _ _ _ R h ho2 (by intro x hx; rcases List.mem_append.1 hx with hx | hx; exact hb x hx; simp at hx; subst hx; exact ho1) ht
        simp only [List.length_append, List.length_cons, List.length_nil] at this ⊢
        exact ⟨by omega, by omega, this.2.2⟩
      · split at h
        · have := judgeGo_fit own B hB os _ _ _ R h ho2 hb (by intro x hx; rcases List.mem_append.1 hx with hx | hx; exact ht x hx; simp at hx; subst hx; exact betterD_size own o B hB ho1)
          simp only [List.length_append, List.length_cons, List.length_nil] at this ⊢
          exact ⟨by omega, by omega, this.2.2⟩
        · have := judgeGo_fit own B hB os _ _ _ R h ho2 hb ht
          simp only [List.length_cons] at this ⊢
          exact ⟨by omega, by omega, this.2.2⟩
    · cases h
theorem judgeD_fit (own : LinkD) (os : List OptD) (B : Nat) (hB : 4 ≤ B) (h : ∀ o ∈ os, o.data.size ≤ B) : (judgeD own os).2.1.length ≤ os.length ∧ ∀ o ∈ (judgeD own os).2.1, o.data.size ≤ B := by
  unfold judgeD
  split
  · cases hg : judgeGo own [] os [] [] with
    | none => exact ⟨by simp, by simp⟩
    | some R =>
      obtain ⟨bad, bet⟩ := R
      have := judgeGo_fit own B hB os [] [] [] _ hg h (by simp) (by simp)
      simp only [List.length_nil, Nat.zero_add] at this
      simp only
      split
      · split
        · exact ⟨Nat.le_refl _, h⟩
        · exact ⟨this.2.1, this.2.2.2⟩
      · exact ⟨this.1, this.2.2.1⟩
  · exact ⟨by simp, by simp⟩

/-- which event a packet is; false: nothing is done -/
def judged (n : NegD) (r : RepD) : RepD := { r with verdict := (judgeD n.own r.p.opts).1, os := (judgeD n.own r.p.opts).2.1 }
def eventD (n : NegD) (r : RepD) : NegD × RepD × Int × Bool :=
  if r.p.code = 1 then (n, judged n r, if (judgeD n.own r.p.opts).1 = 0 then 6 else 7, true)
  else if r.p.code = 2 then (n, r, 8, r.p.id == n.asked && decide (r.p.opts = n.os))
  else if r.p.code = 3 ∨ r.p.code = 4 then (if r.p.id = n.asked then ({ n with own := (learnD n.own r.p.code r.p.opts).1 }, r, 9, true) else (n, r, 0, false))
  else if r.p.code = 5 then (n, r, 10, true)
  else if r.p.code = 6 then (n, r, 11, true)
  else if r.p.code = 7 ∨ r.p.code = 8 then (n, r, 13, true)
  else if r.p.code = 9 ∨ r.p.code = 10 ∨ r.p.code = 11 then (n, r, 15, true)
  else (n, r, 12, true)

/-- the worlds in which block g alone has turned, but for one cell of it -/
structure Fixed (w : World) (g : Nat) (p : Addr) (u : Value) where
  v : World
  grown : w.grownBy v (some g)
  cell : v.cell? p = some u
theorem okay_fixed {w w1 : World} {g : Nat} {p : Addr} {u : Value} (h : w.grownBy w1 (some g)) (hc : w1.cell? p = some u) : Okay (Fixed.v (w := w) (g := g) (p := p) (u := u)) (nearC w1) :=
  ⟨fun w' ⟨x, hx⟩ => ⟨⟨w', by subst hx; exact only_below h x.below, by subst hx; exact (x.below.cell (World.block_lt_of_cell? w1 _ hc)).trans hc⟩, rfl⟩, (okay_near w1).closed⟩

theorem RepAt.putVerdict {w : World} {b : Nat} {pv ov : Value} {r : RepD} (h : RepAt w b pv ov r) (vd : Int) :
    RepAt (w.setCell ⟨b, 5, none⟩ (.int .i64 vd)) b pv ov { r with verdict := vd } ∧ w.grownBy (w.setCell ⟨b, 5, none⟩ (.int .i64 vd)) (some b) :=
  have hg : w.grownBy (w.setCell ⟨b, 5, none⟩ (.int .i64 vd)) (some b) := only_setCell (World.grownBy.refl w _) (.inl rfl) _
  ⟨⟨h.blk.set_ 5 _, h.prow.kept hg (.inr (own_blk_ne h.prow h.blk (by decide))), h.orow.kept hg (.inr (own_blk_ne h.orow h.blk (by decide))), ⟨h.fit.pl, h.fit.ol, h.fit.pd, h.fit.od, h.fit.dd⟩⟩, hg⟩
theorem RepAt.putOs {w : World} {b : Nat} {pv ov v' : Value} {r : RepD} {os' : List OptD} (h : RepAt w b pv ov r) (hv : w.ownsRow 0 79 2 v' os'.length (optCells os')) (hl : os'.length ≤ 2048) (hd : ∀ o ∈ os', o.data.size ≤ 140737488351232) :
    RepAt (w.setCell ⟨b, 6, none⟩ v') b pv v' { r with os := os' } ∧ w.grownBy (w.setCell ⟨b, 6, none⟩ v') (some b) :=
  have hg : w.grownBy (w.setCell ⟨b, 6, none⟩ v') (some b) := only_setCell (World.grownBy.refl w _) (.inl rfl) _
  ⟨⟨h.blk.set_ 6 _, h.prow.kept hg (.inr (own_blk_ne h.prow h.blk (by decide))), hv.kept hg (.inr (own_blk_ne hv h.blk (by decide))), ⟨h.fit.pl, hl, h.fit.pd, hd, h.fit.dd⟩⟩, hg⟩

structure Evented (wc w' : World) (g t rb : Nat) (v pv : Value) (n' : NegD) (r' : RepD) : Prop where
  neg : NegTo wc w' g t v n'
  rep : ∃ ov, RepAt w' rb pv ov r'

set_option maxRecDepth 100000 in
set_option maxHeartbeats 2000000 in
theorem event_req (wc w : World) (g t rb : Nat) (v pv ov : Value) (n : NegD) (r : RepD) (h : NegTo wc w g t v n) (hr : RepAt w rb pv ov r) (hrb : wc.heap.size ≤ rb) (hgc : g < wc.heap.size) (hc : r.p.code = 1) (J : Int × List OptD × Int) (hJ : judgeD n.own r.p.opts = J) (vb : Bool) (hvb : (J.1 == 0) = vb) (ev : Int) (hev : ev = if J.1 = 0 then 6 else 7) :
    Calls Tryd.prog 29 #[.pointer (some ⟨g, 0, none⟩), .pointer (some ⟨rb, 0, none⟩)] w fun e w' =>
      e = .returned (.tuple #[.int .i64 ev, .bool true]) ∧ Evented wc w' g t rb v pv n { r with verdict := J.1, os := J.2.1 } := by
  have H := Lib.hid h
  have R := Lib.hid hr
  have HJ := Lib.hid hJ
  obtain ⟨Ap, cp, rfl, hcp, _, _⟩ := own_shape hr.prow
  have hpl := hr.fit.pl
  have r0 : w.cell? ⟨rb, 0, none⟩ = some (.int .i64 1) := by have : w.cell? ⟨rb, 0, none⟩ = some (.int .i64 r.p.code) := hr.blk.cell 0; rw [hc] at this; exact this
  have hgr : g ≠ rb := by omega
  have HFT := Lib.hid (judgeD_fit n.own r.p.opts 140737488351232 (by omega) hr.fit.pd)
  rw [hJ] at HFT
  have HEV := Lib.hid hev
  clear h hr hJ hev
  go_enter Tryd.func29, Tryd.ntmps29
  go_wp2_with fail
  clear r0
  have hk2 : w.cell? ⟨rb, 2, none⟩ = some (.slice Ap r.p.opts.length cp) := R.out.blk.cell 2
  have hne : Nonempty (Fixed w rb ⟨rb, 2, none⟩ (.slice Ap r.p.opts.length cp)) := ⟨⟨w, World.grownBy.refl w _, hk2⟩⟩
  have hng : g ≠ rb := hgr
  have q2 : ∀ z : Fixed w rb ⟨rb, 2, none⟩ (.slice Ap r.p.opts.length cp), z.v.cell? ⟨rb, 2, none⟩ = some (.slice Ap r.p.opts.length cp) := fun z => z.cell
  have q4 : ∀ z : Fixed w rb ⟨rb, 2, none⟩ (.slice Ap r.p.opts.length cp), z.v.cell? ⟨g, 4, none⟩ = some (.int .i64 n.own.mru) := fun z => z.grown.cell (H.out.at_.blk.cell 4) (by simpa using hng)
  have q5 : ∀ z : Fixed w rb ⟨rb, 2, none⟩ (.slice Ap r.p.opts.length cp), z.v.cell? ⟨g, 5, none⟩ = some (.int .i64 n.own.magic) := fun z => z.grown.cell (H.out.at_.blk.cell 5) (by simpa using hng)
  have q6 : ∀ z : Fixed w rb ⟨rb, 2, none⟩ (.slice Ap r.p.opts.length cp), z.v.cell? ⟨g, 6, none⟩ = some (.int .i64 n.own.mrru) := fun z => z.grown.cell (H.out.at_.blk.cell 6) (by simpa using hng)
  have q7 : ∀ z : Fixed w rb ⟨rb, 2, none⟩ (.slice Ap r.p.opts.length cp), z.v.cell? ⟨g, 7, none⟩ = some (.bool n.own.short) := fun z => z.grown.cell (H.out.at_.blk.cell 7) (by simpa using hng)
  have q8 : ∀ z : Fixed w rb ⟨rb, 2, none⟩ (.slice Ap r.p.opts.length cp), z.v.cell? ⟨g, 8, none⟩ = some (.string n.own.disc) := fun z => z.grown.cell (H.out.at_.blk.cell 8) (by simpa using hng)
  have q9 : ∀ z : Fixed w rb ⟨rb, 2, none⟩ (.slice Ap r.p.opts.length cp), z.v.cell? ⟨g, 9, none⟩ = some (.int .i64 n.own.num) := fun z => z.grown.cell (H.out.at_.blk.cell 9) (by simpa using hng)
  refine wp_region_sched [(0, false), (1, false), (2, false), (3, false), (4, false), (5, false), (6, false), (7, false), (8, false), (9, false), (10, false), (11, true), (12, false), (13, false), (14, false), (15, false), (16, false), (17, false), (18, true), (19, false), (20, false), (21, true)] (Fixed.v (w := w) (g := rb) (p := ⟨rb, 2, none⟩) (u := .slice Ap r.p.opts.length cp)) (nearC w) (okay_fixed (World.grownBy.refl w _) hk2) (by kernel_rfl) rfl (by kernel_rfl) (by kernel_rfl) ⟨⟨_, (Below.refl _ _).drew⟩, rfl⟩ ?_
  iterate 11 (refine sched_quiet rfl (fun K hK => ?_); go_simp; first | (refine hK _ ?_; clear hK K) | (apply Exists.intro; refine ⟨fun _ => ?_, hK _ ?_⟩; (fail); clear hK K))
  clear q2 q4 q5 q6 q7 q8 q9
  refine sched_eff rfl rfl (fun K hK w7 hw7 => ?_)
  go_simp
  obtain ⟨x, rfl⟩ := hw7
  have hrx := R.out.below x.below
  refine (judge_any n.own Ap r.p.opts.length cp r.p.opts x.v (Reads.of_own hrx.prow) rfl (by omega) hcp).mono ?_
  rintro e w8 ⟨jv, rfl, hj⟩
  have hb8 := below_trans' x.below x.below.size hj.below
  have hjo := hj.own
  rw [HJ.out] at hjo
  simp only [HJ.out]
  obtain ⟨Aj, cj, rfl, hcj, _, _⟩ := own_shape hjo
  have HJO := Lib.hid hjo
  have R8 := Lib.hid (R.out.below hb8)
  have H8 := Lib.hid (H.out.below hb8)
  have HB8 := Lib.hid hb8
  refine ⟨_, rfl, nearC w8, okay_fixed (only_of_below hb8 _) ((hb8.cell (World.block_lt_of_cell? w _ hk2)).trans hk2), nearC_self _, hK _ _ ?_⟩
  clear hK K hj hjo hb8 hrx
  iterate 6 (refine sched_quiet rfl (fun K hK => ?_); go_simp; first | (refine hK _ ?_; clear hK K) | (apply Exists.intro; refine ⟨fun _ => ?_, hK _ ?_⟩; (fail); clear hK K))
  refine sched_eff rfl rfl (fun K hK w9 hw9 => ?_)
  obtain ⟨y, rfl⟩ := hw9
  have R9 := Lib.hid (R8.out.below y.below)
  have H9 := Lib.hid (H8.out.below y.below)
  have k5 : y.v.cell? ⟨rb, 5, none⟩ = some (.int .i64 r.verdict) := R9.out.blk.cell 5
  have kf := R9.out.blk.frozen 5
  go_simp
  have hp9 := R9.out.putVerdict J.1
  have R10 := Lib.hid hp9.1
  have H10 := Lib.hid (show NegTo wc (y.v.setCell ⟨rb, 5, none⟩ (.int .i64 J.1)) g t v n from ⟨H9.out.at_.beside hp9.2 R9.out.blk (Ne.symm hgr) (by decide) (by decide), only_new H9.out.grown hp9.2 hrb⟩)
  have HW10 := Lib.hid (grown_row (only_of_below (below_trans' HB8.out HB8.out.size y.below) (some rb)) hp9.2)
  have HJ10 := Lib.hid (own_grown' (own_below HJO.out y.below) hp9.2 (own_blk_ne (own_below HJO.out y.below) R9.out.blk (by decide)))
  have hk10 : (y.v.setCell ⟨rb, 5, none⟩ (.int .i64 J.1)).cell? ⟨rb, 2, none⟩ = some (.slice Ap r.p.opts.length cp) := R10.out.blk.cell 2
  refine ⟨nearC _, okay_fixed HW10.out hk10, nearC_self _, hK _ _ ?_⟩
  clear hK K k5 kf hp9
  iterate 2 (refine sched_quiet rfl (fun K hK => ?_); go_simp; first | (refine hK _ ?_; clear hK K) | (apply Exists.intro; refine ⟨fun _ => ?_, hK _ ?_⟩; (fail); clear hK K))
  refine sched_eff rfl rfl (fun K hK w11 hw11 => ?_)
  obtain ⟨z, rfl⟩ := hw11
  have R11 := Lib.hid (R10.out.below z.below)
  have H11 := Lib.hid (H10.out.below z.below)
  have k6 : z.v.cell? ⟨rb, 6, none⟩ = some ov := R11.out.blk.cell 6
  have kf := R11.out.blk.frozen 6
  go_simp
  have hp11 := R11.out.putOs (v' := .slice Aj J.2.1.length cj) (os' := J.2.1) (own_base (own_below HJ10.out z.below) (Nat.zero_le _)) (Nat.le_trans HFT.out.1 hpl) HFT.out.2
  have R12 := Lib.hid hp11.1
  have H12 := Lib.hid (show NegTo wc (z.v.setCell ⟨rb, 6, none⟩ (.slice Aj J.2.1.length cj)) g t v n from ⟨H11.out.at_.beside hp11.2 R11.out.blk (Ne.symm hgr) (by decide) (by decide), only_new H11.out.grown hp11.2 hrb⟩)
  have hk12 : (z.v.setCell ⟨rb, 6, none⟩ (.slice Aj J.2.1.length cj)).cell? ⟨rb, 2, none⟩ = some (.slice Ap r.p.opts.length cp) := R12.out.blk.cell 2
  refine ⟨nearC _, okay_fixed (grown_row (only_below HW10.out z.below) hp11.2) hk12, nearC_self _, hK _ _ ?_⟩
  clear hK K k6 kf hp11 hk10 hk12
  refine sched_nil ?_
  rintro w13 ⟨s, rfl⟩
  have R13 := Lib.hid (R12.out.below s.below)
  have H13 := Lib.hid (H12.out.below s.below)
  have k5 : s.v.cell? ⟨rb, 5, none⟩ = some (.int .i64 J.1) := R13.out.blk.cell 5
  cases vb with
  | true =>
    have h0 : J.1 = 0 := by simpa using hvb
    have HE := Lib.hid (show ev = 6 by rw [HEV.out, if_pos h0])
    clear h0
    go_wp2_with fail
    go_ret2
    exact ⟨by rw [HE.out]; rfl, H13.out, _, R13.out⟩
  | false =>
    have h0 : ¬ J.1 = 0 := by simpa using hvb
    have HE := Lib.hid (show ev = 7 by rw [HEV.out, if_neg h0])
    clear h0
    go_wp2_with fail
    go_ret2
    exact ⟨by rw [HE.out]; rfl, H13.out, _, R13.out⟩
end Go.Proofs.YthlfghheciamcaaDoor
