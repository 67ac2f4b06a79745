/-
  The contract of event, the other codes.
  Conditions: as each states.
-/
import Derived.Test.YthlfghheciamcaaDoorH2
import Derived.Test.YthlfghheciamcaaDoorX2
namespace Go.Proofs.YthlfghheciamcaaDoor
open Go.RowKit
set_option linter.unusedVariables false

set_option maxRecDepth 100000 in
set_option maxHeartbeats 2000000 in
theorem event_ack (g t rb : Nat) (v pv ov : Value) (n : NegD) (r : RepD) (w : World) (h : NegAt w g t v n) (hr : RepAt w rb pv ov r) (hc : r.p.code = 2) :
    Calls Tryd.prog 29 #[.pointer (some ⟨g, 0, none⟩), .pointer (some ⟨rb, 0, none⟩)] w fun e w' =>
      e = .returned (.tuple #[.int .i64 8, .bool (r.p.id == n.asked && decide (r.p.opts = n.os))]) ∧ Below w.heap.size w w' := by
  obtain ⟨Ap, cp, rfl, hcp, _, _⟩ := own_shape hr.prow
  obtain ⟨Av, cv, rfl, hcv, _, _⟩ := own_shape h.row
  have hpl := hr.fit.pl
  have hol := h.fit.os
  have r0 : w.cell? ⟨rb, 0, none⟩ = some (.int .i64 2) := by have : w.cell? ⟨rb, 0, none⟩ = some (.int .i64 r.p.code) := hr.blk.cell 0; rw [hc] at this; exact this
  have r1 : w.cell? ⟨rb, 1, none⟩ = some (.int .i64 r.p.id) := hr.blk.cell 1
  have r2 : w.cell? ⟨rb, 2, none⟩ = some (.slice Ap r.p.opts.length cp) := hr.blk.cell 2
  have c17 : w.cell? ⟨g, 17, none⟩ = some (.int .i64 n.asked) := h.blk.cell 17
  have c18 : w.cell? ⟨g, 18, none⟩ = some (.slice Av n.os.length cv) := h.blk.cell 18
  have H := Lib.hid h
  have R := Lib.hid hr
  have n1 := Near.cell r1
  have n2 := Near.cell r2
  have n17 := Near.cell c17
  have n18 := Near.cell c18
  clear h hr hc
  rcases hi : (r.p.id == n.asked) with _ | _
  · go_enter Tryd.func29, Tryd.ntmps29
    go_wp2_with fail
    refine wp_region_near (by kernel_rfl) (by kernel_rfl) ?_
    repeat (go_big_quiet_step (fail))
    refine wpQuiet_nil ?_
    intro x
    clear n1 n2 n17 n18
    go_wp2_with fail
    go_ret2
    exact ⟨rfl, x.below⟩
  · go_enter Tryd.func29, Tryd.ntmps29
    go_wp2_with fail
    refine wp_region_near (by kernel_rfl) (by kernel_rfl) ?_
    repeat (go_big_quiet_step ((go_at_call 40; exact near_of (equal_any r.p.opts n.os Ap Av r.p.opts.length n.os.length cp cv _ (Reads.of_own (R.out.below (Near.below _)).prow) rfl (by omega) (Reads.of_own (H.out.below (Near.below _)).row) rfl (by omega)))))
    refine wpQuiet_nil ?_
    intro x
    clear n1 n2 n17 n18
    go_wp2_with fail
    go_ret2
    exact ⟨rfl, x.below⟩
set_option maxRecDepth 100000 in
set_option maxHeartbeats 2000000 in
theorem event_no_3 (g t rb : Nat) (v pv ov : Value) (n : NegD) (r : RepD) (w : World) (h : NegAt w g t v n) (hr : RepAt w rb pv ov r) (hc : r.p.code = 3) (hid : (r.p.id != n.asked) = true) :
    Calls Tryd.prog 29 #[.pointer (some ⟨g, 0, none⟩), .pointer (some ⟨rb, 0, none⟩)] w fun e w' =>
      e = .returned (.tuple #[.int .i64 0, .bool false]) ∧ Below w.heap.size w w' := by
  have r0 : w.cell? ⟨rb, 0, none⟩ = some (.int .i64 3) := by have : w.cell? ⟨rb, 0, none⟩ = some (.int .i64 r.p.code) := hr.blk.cell 0; rw [hc] at this; exact this
  have r1 : w.cell? ⟨rb, 1, none⟩ = some (.int .i64 r.p.id) := hr.blk.cell 1
  have c17 : w.cell? ⟨g, 17, none⟩ = some (.int .i64 n.asked) := h.blk.cell 17
  clear h hr hc
  go_enter Tryd.func29, Tryd.ntmps29
  go_wp2_with fail
  go_quiet (fail)
  go_wp2_with fail
  go_ret2
  exact ⟨rfl, below_drewN (Below.refl _ _) _⟩

set_option maxRecDepth 100000 in
set_option maxHeartbeats 2000000 in
theorem event_nak_3 (wc w : World) (g t rb : Nat) (v pv ov : Value) (n : NegD) (r : RepD) (h : NegTo wc w g t v n) (hr : RepAt w rb pv ov r) (hc : r.p.code = 3) (hid : (r.p.id != n.asked) = false) :
    Calls Tryd.prog 29 #[.pointer (some ⟨g, 0, none⟩), .pointer (some ⟨rb, 0, none⟩)] w fun e w' =>
      e = .returned (.tuple #[.int .i64 9, .bool true]) ∧ Evented wc w' g t rb v pv { n with own := (learnD n.own 3 r.p.opts).1 } r := by
  obtain ⟨Ap, cp, rfl, hcp, _, _⟩ := own_shape hr.prow
  have hpl := hr.fit.pl
  have r0 : w.cell? ⟨rb, 0, none⟩ = some (.int .i64 3) := by have : w.cell? ⟨rb, 0, none⟩ = some (.int .i64 r.p.code) := hr.blk.cell 0; rw [hc] at this; exact this
  have r1 : w.cell? ⟨rb, 1, none⟩ = some (.int .i64 r.p.id) := hr.blk.cell 1
  have c17 : w.cell? ⟨g, 17, none⟩ = some (.int .i64 n.asked) := h.at_.blk.cell 17
  have H := Lib.hid h
  have R := Lib.hid hr
  have HC := Lib.hid hc
  clear h hr hc
  go_enter Tryd.func29, Tryd.ntmps29
  go_wp2_with fail
  go_quiet (fail)
  clear r0 r1 c17
  have HW := Lib.hid (H.out.drewN nq)
  have RW := Lib.hid (R.out.drewN nq)
  generalize w.drewN nq = W at *
  have hk0 : W.cell? ⟨rb, 0, none⟩ = some (.int .i64 3) := by have : W.cell? ⟨rb, 0, none⟩ = some (.int .i64 r.p.code) := RW.out.blk.cell 0; rw [HC.out] at this; exact this
  have hk2 : W.cell? ⟨rb, 2, none⟩ = some (.slice Ap r.p.opts.length cp) := RW.out.blk.cell 2
  go_wp2_with fail
  have n0 := Near.cell hk0
  have n2 := Near.cell hk2
  have n4 := Near.cell (show W.cell? ⟨g, 4, none⟩ = some (.int .i64 n.own.mru) from HW.out.at_.blk.cell 4)
  have n5 := Near.cell (show W.cell? ⟨g, 5, none⟩ = some (.int .i64 n.own.magic) from HW.out.at_.blk.cell 5)
  have n6 := Near.cell (show W.cell? ⟨g, 6, none⟩ = some (.int .i64 n.own.mrru) from HW.out.at_.blk.cell 6)
  have n7 := Near.cell (show W.cell? ⟨g, 7, none⟩ = some (.bool n.own.short) from HW.out.at_.blk.cell 7)
  have n8 := Near.cell (show W.cell? ⟨g, 8, none⟩ = some (.string n.own.disc) from HW.out.at_.blk.cell 8)
  have n9 := Near.cell (show W.cell? ⟨g, 9, none⟩ = some (.int .i64 n.own.num) from HW.out.at_.blk.cell 9)
  clear hk0 hk2
  refine wp_region_sched2 [21] [(0, 1), (1, 1), (2, 1), (3, 1), (4, 0), (5, 1), (6, 1), (7, 1), (8, 1), (9, 0), (10, 1), (11, 1), (12, 1), (13, 1), (14, 0), (15, 0), (16, 1), (17, 1), (18, 1), (19, 1), (20, 1), (21, 2)] (Near.v (w := W)) (nearC W) (closed_near W) (by kernel_rfl) rfl (by kernel_rfl) (by kernel_rfl) ⟨⟨_, (Below.refl _ _).drew⟩, rfl⟩ ?_
  iterate 4 (refine s_pure rfl (fun K hK => ?_); go_simp; first | (refine hK _ ?_; clear hK K) | (apply Exists.intro; refine ⟨fun _ => ?_, hK _ ?_⟩; (fail); clear hK K))
  iterate 1 (refine s_quiet rfl (within_near _) (fun K hK => ?_); go_simp; first | (refine hK _ ?_; clear hK K) | (apply Exists.intro; refine ⟨fun _ => ?_, hK _ ?_⟩; (fail); clear hK K))
  iterate 4 (refine s_pure rfl (fun K hK => ?_); go_simp; first | (refine hK _ ?_; clear hK K) | (apply Exists.intro; refine ⟨fun _ => ?_, hK _ ?_⟩; (fail); clear hK K))
  iterate 1 (refine s_quiet rfl (within_near _) (fun K hK => ?_); go_simp; first | (refine hK _ ?_; clear hK K) | (apply Exists.intro; refine ⟨fun _ => ?_, hK _ ?_⟩; (fail); clear hK K))
  iterate 4 (refine s_pure rfl (fun K hK => ?_); go_simp; first | (refine hK _ ?_; clear hK K) | (apply Exists.intro; refine ⟨fun _ => ?_, hK _ ?_⟩; (fail); clear hK K))
  iterate 1 (refine s_quiet rfl (within_near _) (fun K hK => ?_); go_simp; first | (refine hK _ ?_; clear hK K) | (apply Exists.intro; refine ⟨fun _ => ?_, hK _ ?_⟩; (fail); clear hK K))
  iterate 1 (refine s_quiet rfl (within_near _) (fun K hK => ?_); go_simp; first | (refine hK _ ?_; clear hK K) | (apply Exists.intro; refine ⟨fun _ => ?_, hK _ ?_⟩; (exact learn_any' n.own 3 (by decide) Ap r.p.opts.length cp r.p.opts _ (Reads.of_own (RW.out.below (Near.below _)).prow) rfl (by omega) RW.out.fit.pd); clear hK K))
  clear n0 n2 n4 n5 n6 n7 n8 n9
  iterate 5 (refine s_pure rfl (fun K hK => ?_); go_simp; first | (refine hK _ ?_; clear hK K) | (apply Exists.intro; refine ⟨fun _ => ?_, hK _ ?_⟩; (fail); clear hK K))
  refine s_eff rfl rfl (fun K hK w7 hw7 => ?_)
  obtain ⟨x, rfl⟩ := hw7
  have HX := Lib.hid (HW.out.below x.below)
  have RX := Lib.hid (RW.out.below x.below)
  have c4 : x.v.cell? ⟨g, 4, none⟩ = some (.int .i64 n.own.mru) := HX.out.at_.blk.cell 4
  have c5 : x.v.cell? ⟨g, 5, none⟩ = some (.int .i64 n.own.magic) := HX.out.at_.blk.cell 5
  have c6 : x.v.cell? ⟨g, 6, none⟩ = some (.int .i64 n.own.mrru) := HX.out.at_.blk.cell 6
  have c7 : x.v.cell? ⟨g, 7, none⟩ = some (.bool n.own.short) := HX.out.at_.blk.cell 7
  have c8 : x.v.cell? ⟨g, 8, none⟩ = some (.string n.own.disc) := HX.out.at_.blk.cell 8
  have c9 : x.v.cell? ⟨g, 9, none⟩ = some (.int .i64 n.own.num) := HX.out.at_.blk.cell 9
  have gf := HX.out.at_.blk.frozen
  generalize hl : (learnD n.own 3 r.p.opts).1 = L
  have HL := Lib.hid hl
  clear hl
  simp only [LinkD.cells]
  go_simp
  have hto := HX.out.at_.putOwn L
  have HT := Lib.hid (HX.out.trans hto)
  have RT := Lib.hid (RX.out.neg HX.out.at_ hto)
  refine ⟨nearC _, closed_near _, nearC_self _, hK _ _ ?_⟩
  clear hK K hto c4 c5 c6 c7 c8 c9 gf
  refine s_nil ?_
  rintro w8 ⟨y, rfl⟩
  go_wp2_with fail
  go_ret2
  exact ⟨rfl, by rw [HL.out]; exact HT.out.below y.below, _, RT.out.below y.below⟩

set_option maxRecDepth 100000 in
set_option maxHeartbeats 2000000 in
theorem event_no_4 (g t rb : Nat) (v pv ov : Value) (n : NegD) (r : RepD) (w : World) (h : NegAt w g t v n) (hr : RepAt w rb pv ov r) (hc : r.p.code = 4) (hid : (r.p.id != n.asked) = true) :
    Calls Tryd.prog 29 #[.pointer (some ⟨g, 0, none⟩), .pointer (some ⟨rb, 0, none⟩)] w fun e w' =>
      e = .returned (.tuple #[.int .i64 0, .bool false]) ∧ Below w.heap.size w w' := by
  have r0 : w.cell? ⟨rb, 0, none⟩ = some (.int .i64 4) := by have : w.cell? ⟨rb, 0, none⟩ = some (.int .i64 r.p.code) := hr.blk.cell 0; rw [hc] at this; exact this
  have r1 : w.cell? ⟨rb, 1, none⟩ = some (.int .i64 r.p.id) := hr.blk.cell 1
  have c17 : w.cell? ⟨g, 17, none⟩ = some (.int .i64 n.asked) := h.blk.cell 17
  clear h hr hc
  go_enter Tryd.func29, Tryd.ntmps29
  go_wp2_with fail
  go_quiet (fail)
  go_wp2_with fail
  go_ret2
  exact ⟨rfl, below_drewN (Below.refl _ _) _⟩

set_option maxRecDepth 100000 in
set_option maxHeartbeats 2000000 in
theorem event_nak_4 (wc w : World) (g t rb : Nat) (v pv ov : Value) (n : NegD) (r : RepD) (h : NegTo wc w g t v n) (hr : RepAt w rb pv ov r) (hc : r.p.code = 4) (hid : (r.p.id != n.asked) = false) :
    Calls Tryd.prog 29 #[.pointer (some ⟨g, 0, none⟩), .pointer (some ⟨rb, 0, none⟩)] w fun e w' =>
      e = .returned (.tuple #[.int .i64 9, .bool true]) ∧ Evented wc w' g t rb v pv { n with own := (learnD n.own 4 r.p.opts).1 } r := by
  obtain ⟨Ap, cp, rfl, hcp, _, _⟩ := own_shape hr.prow
  have hpl := hr.fit.pl
  have r0 : w.cell? ⟨rb, 0, none⟩ = some (.int .i64 4) := by have : w.cell? ⟨rb, 0, none⟩ = some (.int .i64 r.p.code) := hr.blk.cell 0; rw [hc] at this; exact this
  have r1 : w.cell? ⟨rb, 1, none⟩ = some (.int .i64 r.p.id) := hr.blk.cell 1
  have c17 : w.cell? ⟨g, 17, none⟩ = some (.int .i64 n.asked) := h.at_.blk.cell 17
  have H := Lib.hid h
  have R := Lib.hid hr
  have HC := Lib.hid hc
  clear h hr hc
  go_enter Tryd.func29, Tryd.ntmps29
  go_wp2_with fail
  go_quiet (fail)
  clear r0 r1 c17
  have HW := Lib.hid (H.out.drewN nq)
  have RW := Lib.hid (R.out.drewN nq)
  generalize w.drewN nq = W at *
  have hk0 : W.cell? ⟨rb, 0, none⟩ = some (.int .i64 4) := by have : W.cell? ⟨rb, 0, none⟩ = some (.int .i64 r.p.code) := RW.out.blk.cell 0; rw [HC.out] at this; exact this
  have hk2 : W.cell? ⟨rb, 2, none⟩ = some (.slice Ap r.p.opts.length cp) := RW.out.blk.cell 2
  go_wp2_with fail
  have n0 := Near.cell hk0
  have n2 := Near.cell hk2
  have n4 := Near.cell (show W.cell? ⟨g, 4, none⟩ = some (.int .i64 n.own.mru) from HW.out.at_.blk.cell 4)
  have n5 := Near.cell (show W.cell? ⟨g, 5, none⟩ = some (.int .i64 n.own.magic) from HW.out.at_.blk.cell 5)
  have n6 := Near.cell (show W.cell? ⟨g, 6, none⟩ = some (.int .i64 n.own.mrru) from HW.out.at_.blk.cell 6)
  have n7 := Near.cell (show W.cell? ⟨g, 7, none⟩ = some (.bool n.own.short) from HW.out.at_.blk.cell 7)
  have n8 := Near.cell (show W.cell? ⟨g, 8, none⟩ = some (.string n.own.disc) from HW.out.at_.blk.cell 8)
  have n9 := Near.cell (show W.cell? ⟨g, 9, none⟩ = some (.int .i64 n.own.num) from HW.out.at_.blk.cell 9)
  clear hk0 hk2
  refine wp_region_sched2 [21] [(0, 1), (1, 1), (2, 1), (3, 1), (4, 0), (5, 1), (6, 1), (7, 1), (8, 1), (9, 0), (10, 1), (11, 1), (12, 1), (13, 1), (14, 0), (15, 0), (16, 1), (17, 1), (18, 1), (19, 1), (20, 1), (21, 2)] (Near.v (w := W)) (nearC W) (closed_near W) (by kernel_rfl) rfl (by kernel_rfl) (by kernel_rfl) ⟨⟨_, (Below.refl _ _).drew⟩, rfl⟩ ?_
  iterate 4 (refine s_pure rfl (fun K hK => ?_); go_simp; first | (refine hK _ ?_; clear hK K) | (apply Exists.intro; refine ⟨fun _ => ?_, hK _ ?_⟩; (fail); clear hK K))
  iterate 1 (refine s_quiet rfl (within_near _) (fun K hK => ?_); go_simp; first | (refine hK _ ?_; clear hK K) | (apply Exists.intro; refine ⟨fun _ => ?_, hK _ ?_⟩; (fail); clear hK K))
  iterate 4 (refine s_pure rfl (fun K hK => ?_); go_simp; first | (refine hK _ ?_; clear hK K) | (apply Exists.intro; refine ⟨fun _ => ?_, hK _ ?_⟩; (fail); clear hK K))
  iterate 1 (refine s_quiet rfl (within_near _) (fun K hK => ?_); go_simp; first | (refine hK _ ?_; clear hK K) | (apply Exists.intro; refine ⟨fun _ => ?_, hK _ ?_⟩; (fail); clear hK K))
  iterate 4 (refine s_pure rfl (fun K hK => ?_); go_simp; first | (refine hK _ ?_; clear hK K) | (apply Exists.intro; refine ⟨fun _ => ?_, hK _ ?_⟩; (fail); clear hK K))
  iterate 1 (refine s_quiet rfl (within_near _) (fun K hK => ?_); go_simp; first | (refine hK _ ?_; clear hK K) | (apply Exists.intro; refine ⟨fun _ => ?_, hK _ ?_⟩; (fail); clear hK K))
  iterate 1 (refine s_quiet rfl (within_near _) (fun K hK => ?_); go_simp; first | (refine hK _ ?_; clear hK K) | (apply Exists.intro; refine ⟨fun _ => ?_, hK _ ?_⟩; (exact learn_any' n.own 4 (by decide) Ap r.p.opts.length cp r.p.opts _ (Reads.of_own (RW.out.below (Near.below _)).prow) rfl (by omega) RW.out.fit.pd); clear hK K))
  clear n0 n2 n4 n5 n6 n7 n8 n9
  iterate 5 (refine s_pure rfl (fun K hK => ?_); go_simp; first | (refine hK _ ?_; clear hK K) | (apply Exists.intro; refine ⟨fun _ => ?_, hK _ ?_⟩; (fail); clear hK K))
  refine s_eff rfl rfl (fun K hK w7 hw7 => ?_)
  obtain ⟨x, rfl⟩ := hw7
  have HX := Lib.hid (HW.out.below x.below)
  have RX := Lib.hid (RW.out.below x.below)
  have c4 : x.v.cell? ⟨g, 4, none⟩ = some (.int .i64 n.own.mru) := HX.out.at_.blk.cell 4
  have c5 : x.v.cell? ⟨g, 5, none⟩ = some (.int .i64 n.own.magic) := HX.out.at_.blk.cell 5
  have c6 : x.v.cell? ⟨g, 6, none⟩ = some (.int .i64 n.own.mrru) := HX.out.at_.blk.cell 6
  have c7 : x.v.cell? ⟨g, 7, none⟩ = some (.bool n.own.short) := HX.out.at_.blk.cell 7
  have c8 : x.v.cell? ⟨g, 8, none⟩ = some (.string n.own.disc) := HX.out.at_.blk.cell 8
  have c9 : x.v.cell? ⟨g, 9, none⟩ = some (.int .i64 n.own.num) := HX.out.at_.blk.cell 9
  have gf := HX.out.at_.blk.frozen
  generalize hl : (learnD n.own 4 r.p.opts).1 = L
  have HL := Lib.hid hl
  clear hl
  simp only [LinkD.cells]
  go_simp
  have hto := HX.out.at_.putOwn L
  have HT := Lib.hid (HX.out.trans hto)
  have RT := Lib.hid (RX.out.neg HX.out.at_ hto)
  refine ⟨nearC _, closed_near _, nearC_self _, hK _ _ ?_⟩
  clear hK K hto c4 c5 c6 c7 c8 c9 gf
  refine s_nil ?_
  rintro w8 ⟨y, rfl⟩
  go_wp2_with fail
  go_ret2
  exact ⟨rfl, by rw [HL.out]; exact HT.out.below y.below, _, RT.out.below y.below⟩

end Go.Proofs.YthlfghheciamcaaDoor
