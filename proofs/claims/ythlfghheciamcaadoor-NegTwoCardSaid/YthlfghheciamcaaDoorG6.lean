/-
  Contracts of send, further actions.
  Conditions: as each states.
-/
import Derived.Test.YthlfghheciamcaaDoorG5
namespace Go.Proofs.YthlfghheciamcaaDoor
open Go.RowKit
set_option linter.unusedVariables false

/-- the other side's link has turned -/
theorem NegAt.putOther {w : World} {g t : Nat} {v : Value} {n : NegD} (h : NegAt w g t v n) (l : LinkD) :
    NegTo w ((((((w.setCell ⟨g, 10, none⟩ (.int .i64 l.mru)).setCell ⟨g, 11, none⟩ (.int .i64 l.magic)).setCell ⟨g, 12, none⟩ (.int .i64 l.mrru)).setCell ⟨g, 13, none⟩ (.bool l.short)).setCell ⟨g, 14, none⟩ (.string l.disc)).setCell ⟨g, 15, none⟩ (.int .i64 l.num)) g t v { n with other := l } := by
  have k0 := h.put 10 (.int .i64 l.mru) (n' := { n with other := { n.other with mru := l.mru } }) rfl rfl { h.fit with }
  have k1 := k0.at_.put 11 (.int .i64 l.magic) (n' := { n with other := { n.other with mru := l.mru, magic := l.magic } }) rfl rfl { h.fit with }
  have k2 := k1.at_.put 12 (.int .i64 l.mrru) (n' := { n with other := { n.other with mru := l.mru, magic := l.magic, mrru := l.mrru } }) rfl rfl { h.fit with }
  have k3 := k2.at_.put 13 (.bool l.short) (n' := { n with other := { n.other with mru := l.mru, magic := l.magic, mrru := l.mrru, short := l.short } }) rfl rfl { h.fit with }
  have k4 := k3.at_.put 14 (.string l.disc) (n' := { n with other := { n.other with mru := l.mru, magic := l.magic, mrru := l.mrru, short := l.short, disc := l.disc } }) rfl rfl { h.fit with }
  have k5 := k4.at_.put 15 (.int .i64 l.num) (n' := { n with other := l }) rfl rfl { h.fit with }
  exact ((((k0.trans k1).trans k2).trans k3).trans k4).trans k5
/-- the own link has turned -/
theorem NegAt.putOwn {w : World} {g t : Nat} {v : Value} {n : NegD} (h : NegAt w g t v n) (l : LinkD) :
    NegTo w ((((((w.setCell ⟨g, 4, none⟩ (.int .i64 l.mru)).setCell ⟨g, 5, none⟩ (.int .i64 l.magic)).setCell ⟨g, 6, none⟩ (.int .i64 l.mrru)).setCell ⟨g, 7, none⟩ (.bool l.short)).setCell ⟨g, 8, none⟩ (.string l.disc)).setCell ⟨g, 9, none⟩ (.int .i64 l.num)) g t v { n with own := l } := by
  have k0 := h.put 4 (.int .i64 l.mru) (n' := { n with own := { n.own with mru := l.mru } }) rfl rfl { h.fit with }
  have k1 := k0.at_.put 5 (.int .i64 l.magic) (n' := { n with own := { n.own with mru := l.mru, magic := l.magic } }) rfl rfl { h.fit with }
  have k2 := k1.at_.put 6 (.int .i64 l.mrru) (n' := { n with own := { n.own with mru := l.mru, magic := l.magic, mrru := l.mrru } }) rfl rfl { h.fit with }
  have k3 := k2.at_.put 7 (.bool l.short) (n' := { n with own := { n.own with mru := l.mru, magic := l.magic, mrru := l.mrru, short := l.short } }) rfl rfl { h.fit with }
  have k4 := k3.at_.put 8 (.string l.disc) (n' := { n with own := { n.own with mru := l.mru, magic := l.magic, mrru := l.mrru, short := l.short, disc := l.disc } }) rfl rfl { h.fit with }
  have k5 := k4.at_.put 9 (.int .i64 l.num) (n' := { n with own := l }) rfl rfl { h.fit with }
  exact ((((k0.trans k1).trans k2).trans k3).trans k4).trans k5

set_option maxRecDepth 100000 in
set_option maxHeartbeats 2000000 in
theorem send_sca (g t rb : Nat) (v pv ov : Value) (n : NegD) (r : RepD) (w : World) (h : NegAt w g t v n) (hr : RepAt w rb pv ov r) :
    Calls Tryd.prog 34 #[.pointer (some ⟨g, 0, none⟩), .int .i64 8, .pointer (some ⟨rb, 0, none⟩)] w fun e w' =>
      ∃ u v', e = .returned (.tuple #[packV ⟨2, r.p.id, r.os, emptyB⟩ u, .bool true]) ∧ Sent w w' g t v v' { n with other := (takenD r.os).1 } ⟨2, r.p.id, r.os, emptyB⟩ u := by
  have H := Lib.hid h
  obtain ⟨Ao, co, rfl, hnc, _, _⟩ := own_shape hr.orow
  have R := Lib.hid hr
  have hol := hr.fit.ol
  have r6 : w.cell? ⟨rb, 6, none⟩ = some (.slice Ao r.os.length co) := hr.blk.cell 6
  have hrb : rb < w.heap.size := hr.blk.lt
  have hgl : g < w.heap.size := h.lt
  clear h hr
  go_enter Tryd.func34, Tryd.ntmps34
  go_wp2_with fail
  have ha := R.out.alloc (.cells #[.int .i64 0, .int .i64 0, .slice none 0 0, .string ⟨#[]⟩] 41)
  refine (taken_any r.os Ao r.os.length co _ (Reads.of_own ha.orow) rfl (by omega) hnc ha.fit.od).mono ?_
  rintro e w2 ⟨rfl, hb2⟩
  have H2 := Lib.hid ((H.out.alloc (.cells #[.int .i64 0, .int .i64 0, .slice none 0 0, .string ⟨#[]⟩] 41)).below hb2)
  have HK2 := Lib.hid (Blk.below (Blk.new w 41 #[.int .i64 0, .int .i64 0, .slice none 0 0, .string ⟨#[]⟩]) hb2 (by simp))
  have R2 := Lib.hid (ha.below hb2)
  have HB2 := Lib.hid hb2
  clear hb2 ha r6
  have c10 : w2.cell? ⟨g, 10, none⟩ = some (.int .i64 n.other.mru) := H2.out.blk.cell 10
  have c11 : w2.cell? ⟨g, 11, none⟩ = some (.int .i64 n.other.magic) := H2.out.blk.cell 11
  have c12 : w2.cell? ⟨g, 12, none⟩ = some (.int .i64 n.other.mrru) := H2.out.blk.cell 12
  have c13 : w2.cell? ⟨g, 13, none⟩ = some (.bool n.other.short) := H2.out.blk.cell 13
  have c14 : w2.cell? ⟨g, 14, none⟩ = some (.string n.other.disc) := H2.out.blk.cell 14
  have c15 : w2.cell? ⟨g, 15, none⟩ = some (.int .i64 n.other.num) := H2.out.blk.cell 15
  have gf := H2.out.blk.frozen
  generalize (takenD r.os).2 = er
  generalize htl : (takenD r.os).1 = tl
  have HTL := Lib.hid htl
  clear htl
  simp only [LinkD.cells]
  go_wp2_with fail
  clear c10 c11 c12 c13 c14 c15 gf
  have h6 := H2.out.putOther tl
  have H6 := Lib.hid (show NegTo (w.alloc (.cells #[.int .i64 0, .int .i64 0, .slice none 0 0, .string ⟨#[]⟩] 41)) _ g t v _ from ⟨h6.at_, grown_row (only_of_below HB2.out _) h6.grown⟩)
  have HK6 := Lib.hid (HK2.out.grown h6.grown (by simpa using fun e : w.heap.size = g => absurd H.out.lt (by omega)))
  have R6 := Lib.hid (R2.out.neg H2.out h6)
  clear h6
  generalize ((((((w2.setCell ⟨g, 10, none⟩ (.int .i64 tl.mru)).setCell ⟨g, 11, none⟩ (.int .i64 tl.magic)).setCell ⟨g, 12, none⟩ (.int .i64 tl.mrru)).setCell ⟨g, 13, none⟩ (.bool tl.short)).setCell ⟨g, 14, none⟩ (.string tl.disc)).setCell ⟨g, 15, none⟩ (.int .i64 tl.num)) = W6 at *
  have hrbw : ¬ rb = w.heap.size := by omega
  have q1 := Turned.cell (g := w.heap.size) (show W6.cell? ⟨rb, 1, none⟩ = some (.int .i64 r.p.id) from R6.out.blk.cell 1) hrbw
  have q6 := Turned.cell (g := w.heap.size) (show W6.cell? ⟨rb, 6, none⟩ = some (.slice Ao r.os.length co) from R6.out.blk.cell 6) hrbw
  refine wp_region_sched [(0, false), (1, false), (2, false), (3, false), (4, false), (5, false), (6, false), (7, false), (8, false), (9, true), (10, false), (11, true), (12, false)] (Turned.v (w := W6) (g := w.heap.size)) (nearC W6) (okay_turned (World.grownBy.refl _ _)) (by kernel_rfl) rfl (by kernel_rfl) (by kernel_rfl) ⟨⟨_, (Below.refl _ _).drew⟩, rfl⟩ ?_
  iterate 9 (refine sched_quiet rfl (fun K hK => ?_); go_simp; first | (refine hK _ ?_; clear hK K) | (apply Exists.intro; refine ⟨fun _ => ?_, hK _ ?_⟩; (fail); clear hK K))
  refine sched_eff rfl rfl (fun K hK w7 hw7 => ?_)
  go_simp
  obtain ⟨x, rfl⟩ := hw7
  clear q1 q6
  have hx := H6.out.at_.below x.below
  have hrx := R6.out.below x.below
  refine (clone_any r.os Ao r.os.length co x.v (Reads.of_own hrx.orow) rfl (by omega)).mono ?_
  rintro e w8 ⟨u, rfl, hown, hb8⟩
  have hb68 := below_trans' x.below x.below.size hb8
  obtain ⟨Au, cu, rfl, hcu, _, _⟩ := own_shape hown
  refine ⟨_, rfl, nearC w8, okay_turned (only_of_below hb68 _), nearC_self _, hK _ _ ?_⟩
  clear hK K
  iterate 1 (refine sched_quiet rfl (fun K hK => ?_); go_simp; first | (refine hK _ ?_; clear hK K) | (apply Exists.intro; refine ⟨fun _ => ?_, hK _ ?_⟩; (fail); clear hK K))
  refine sched_eff rfl rfl (fun K hK w9 hw9 => ?_)
  obtain ⟨y, rfl⟩ := hw9
  have hk9 := Blk.below (Blk.below HK6.out hb68 HK6.out.lt) y.below (Nat.lt_of_lt_of_le HK6.out.lt hb68.size)
  have k0 : y.v.cell? ⟨w.heap.size, 0, none⟩ = some (.int .i64 0) := hk9.cell 0
  have k1 : y.v.cell? ⟨w.heap.size, 1, none⟩ = some (.int .i64 0) := hk9.cell 1
  have k2 : y.v.cell? ⟨w.heap.size, 2, none⟩ = some (.slice none 0 0) := hk9.cell 2
  have k3 : y.v.cell? ⟨w.heap.size, 3, none⟩ = some (.string ⟨#[]⟩) := hk9.cell 3
  have kf := hk9.frozen
  go_simp
  obtain ⟨hs9, hs9'⟩ := set_four hk9 (.int .i64 2) (.int .i64 r.p.id) (.slice Au r.os.length cu) (.string ⟨#[]⟩)
  have hby := below_trans' hb68 hb68.size y.below
  have hn9 := (H6.out.from_alloc.below hby).fresh hs9' hk9 H.out.lt (Nat.le_refl _) (by decide) (by decide)
  rw [← HTL.out] at hn9
  have ho9 := own_grown' (own_below hown y.below) hs9' (own_blk_ne (own_below hown y.below) hk9 (by decide))
  refine ⟨nearC _, okay_turned (grown_row (only_of_below hby _) hs9'), nearC_self _, hK _ _ ?_⟩
  clear hK K
  iterate 1 (refine sched_quiet rfl (fun K hK => ?_); go_simp; first | (refine hK _ ?_; clear hK K) | (apply Exists.intro; refine ⟨fun _ => ?_, hK _ ?_⟩; (fail); clear hK K))
  refine sched_nil ?_
  rintro w10 ⟨z, rfl⟩
  have hkz := Blk.below hs9 z.below hs9.lt
  have z0 : z.v.cell? ⟨w.heap.size, 0, none⟩ = some (.int .i64 2) := hkz.cell 0
  have z1 : z.v.cell? ⟨w.heap.size, 1, none⟩ = some (.int .i64 r.p.id) := hkz.cell 1
  have z2 : z.v.cell? ⟨w.heap.size, 2, none⟩ = some (.slice Au r.os.length cu) := hkz.cell 2
  have z3 : z.v.cell? ⟨w.heap.size, 3, none⟩ = some (.string ⟨#[]⟩) := hkz.cell 3
  clear k0 k1 k2 k3 kf hk9 hs9 hkz
  go_wp2_with fail
  refine bodyPost_ret (v := .tuple #[packV ⟨2, r.p.id, r.os, emptyB⟩ (.slice Au r.os.length cu), .bool true]) (by simp [results, Tryd.results34, go_sem, packV, emptyB, z0, z1, z2, z3]) rfl
    ⟨.slice Au r.os.length cu, v, rfl, hn9.below z.below, own_base (own_below ho9 z.below) (Nat.le_trans H6.out.from_alloc.grown.size x.below.size), apart_old hown hx.row (Nat.le_refl _), .inl rfl⟩

set_option maxRecDepth 100000 in
set_option maxHeartbeats 2000000 in
theorem send_scn_true (g t rb : Nat) (v pv ov : Value) (n : NegD) (r : RepD) (w : World) (h : NegAt w g t v n) (hr : RepAt w rb pv ov r) (hv : (r.verdict == 2) = true) :
    Calls Tryd.prog 34 #[.pointer (some ⟨g, 0, none⟩), .int .i64 9, .pointer (some ⟨rb, 0, none⟩)] w fun e w' =>
      ∃ u v', e = .returned (.tuple #[packV ⟨4, r.p.id, r.os, emptyB⟩ u, .bool true]) ∧ Sent w w' g t v v' n ⟨4, r.p.id, r.os, emptyB⟩ u := by
  have H := Lib.hid h
  obtain ⟨Ao, co, rfl, hnc, _, _⟩ := own_shape hr.orow
  have R := Lib.hid hr
  have hol := hr.fit.ol
  have r5 : w.cell? ⟨rb, 5, none⟩ = some (.int .i64 r.verdict) := hr.blk.cell 5
  have hrb : rb < w.heap.size := hr.blk.lt
  have hgl : g < w.heap.size := h.lt
  clear h hr
  go_enter Tryd.func34, Tryd.ntmps34
  go_wp2_with fail
  have H6 := Lib.hid (show NegTo (w.alloc (.cells #[.int .i64 0, .int .i64 0, .slice none 0 0, .string ⟨#[]⟩] 41)) _ g t v n from ⟨H.out.alloc (.cells #[.int .i64 0, .int .i64 0, .slice none 0 0, .string ⟨#[]⟩] 41), World.grownBy.refl _ _⟩)
  have HK6 := Lib.hid (Blk.new w 41 #[.int .i64 0, .int .i64 0, .slice none 0 0, .string ⟨#[]⟩])
  have R6 := Lib.hid (R.out.alloc (.cells #[.int .i64 0, .int .i64 0, .slice none 0 0, .string ⟨#[]⟩] 41))
  obtain ⟨W6, hW⟩ : ∃ W6, w.alloc (.cells #[.int .i64 0, .int .i64 0, .slice none 0 0, .string ⟨#[]⟩] 41) = W6 := ⟨_, rfl⟩
  have HW := Lib.hid hW
  simp only [hW] at HK6 R6 ⊢
  rw [hW] at H6
  clear hW r5 hv
  have hrbw : ¬ rb = w.heap.size := by omega
  have q1 := Turned.cell (g := w.heap.size) (show W6.cell? ⟨rb, 1, none⟩ = some (.int .i64 r.p.id) from R6.out.blk.cell 1) hrbw
  have q6 := Turned.cell (g := w.heap.size) (show W6.cell? ⟨rb, 6, none⟩ = some (.slice Ao r.os.length co) from R6.out.blk.cell 6) hrbw
  have HF := Lib.hid (show NegTo w W6 g t v n from by rw [← HW.out]; exact NegTo.from_alloc (by rw [HW.out]; exact H6.out))
  refine wp_region_sched [(0, false), (1, false), (2, false), (3, false), (4, false), (5, false), (6, false), (7, false), (8, false), (9, false), (10, true), (11, false), (12, true), (13, false)] (Turned.v (w := W6) (g := w.heap.size)) (nearC W6) (okay_turned (World.grownBy.refl _ _)) (by kernel_rfl) rfl (by kernel_rfl) (by kernel_rfl) ⟨⟨_, (Below.refl _ _).drew⟩, rfl⟩ ?_
  iterate 10 (refine sched_quiet rfl (fun K hK => ?_); go_simp; first | (refine hK _ ?_; clear hK K) | (apply Exists.intro; refine ⟨fun _ => ?_, hK _ ?_⟩; (fail); clear hK K))
  refine sched_eff rfl rfl (fun K hK w7 hw7 => ?_)
  go_simp
  obtain ⟨x, rfl⟩ := hw7
  clear q1 q6
  have hx := H6.out.at_.below x.below
  have hrx := R6.out.below x.below
  refine (clone_any r.os Ao r.os.length co x.v (Reads.of_own hrx.orow) rfl (by omega)).mono ?_
  rintro e w8 ⟨u, rfl, hown, hb8⟩
  have hb68 := below_trans' x.below x.below.size hb8
  obtain ⟨Au, cu, rfl, hcu, _, _⟩ := own_shape hown
  refine ⟨_, rfl, nearC w8, okay_turned (only_of_below hb68 _), nearC_self _, hK _ _ ?_⟩
  clear hK K
  iterate 1 (refine sched_quiet rfl (fun K hK => ?_); go_simp; first | (refine hK _ ?_; clear hK K) | (apply Exists.intro; refine ⟨fun _ => ?_, hK _ ?_⟩; (fail); clear hK K))
  refine sched_eff rfl rfl (fun K hK w9 hw9 => ?_)
  obtain ⟨y, rfl⟩ := hw9
  have hk9 := Blk.below (Blk.below HK6.out hb68 HK6.out.lt) y.below (Nat.lt_of_lt_of_le HK6.out.lt hb68.size)
  have k0 : y.v.cell? ⟨w.heap.size, 0, none⟩ = some (.int .i64 0) := hk9.cell 0
  have k1 : y.v.cell? ⟨w.heap.size, 1, none⟩ = some (.int .i64 0) := hk9.cell 1
  have k2 : y.v.cell? ⟨w.heap.size, 2, none⟩ = some (.slice none 0 0) := hk9.cell 2
  have k3 : y.v.cell? ⟨w.heap.size, 3, none⟩ = some (.string ⟨#[]⟩) := hk9.cell 3
  have kf := hk9.frozen
  go_simp
  obtain ⟨hs9, hs9'⟩ := set_four hk9 (.int .i64 4) (.int .i64 r.p.id) (.slice Au r.os.length cu) (.string ⟨#[]⟩)
  have hby := below_trans' hb68 hb68.size y.below
  have hn9 := (HF.out.below hby).fresh hs9' hk9 H.out.lt (Nat.le_refl _) (by decide) (by decide)
  have ho9 := own_grown' (own_below hown y.below) hs9' (own_blk_ne (own_below hown y.below) hk9 (by decide))
  refine ⟨nearC _, okay_turned (grown_row (only_of_below hby _) hs9'), nearC_self _, hK _ _ ?_⟩
  clear hK K
  iterate 1 (refine sched_quiet rfl (fun K hK => ?_); go_simp; first | (refine hK _ ?_; clear hK K) | (apply Exists.intro; refine ⟨fun _ => ?_, hK _ ?_⟩; (fail); clear hK K))
  refine sched_nil ?_
  rintro w10 ⟨z, rfl⟩
  have hkz := Blk.below hs9 z.below hs9.lt
  have z0 : z.v.cell? ⟨w.heap.size, 0, none⟩ = some (.int .i64 4) := hkz.cell 0
  have z1 : z.v.cell? ⟨w.heap.size, 1, none⟩ = some (.int .i64 r.p.id) := hkz.cell 1
  have z2 : z.v.cell? ⟨w.heap.size, 2, none⟩ = some (.slice Au r.os.length cu) := hkz.cell 2
  have z3 : z.v.cell? ⟨w.heap.size, 3, none⟩ = some (.string ⟨#[]⟩) := hkz.cell 3
  clear k0 k1 k2 k3 kf hk9 hs9 hkz
  go_wp2_with fail
  refine bodyPost_ret (v := .tuple #[packV ⟨4, r.p.id, r.os, emptyB⟩ (.slice Au r.os.length cu), .bool true]) (by simp [results, Tryd.results34, go_sem, packV, emptyB, z0, z1, z2, z3]) rfl
    ⟨.slice Au r.os.length cu, v, rfl, hn9.below z.below, own_base (own_below ho9 z.below) (Nat.le_trans HF.out.grown.size x.below.size), apart_old hown hx.row (Nat.le_refl _), .inl rfl⟩

set_option maxRecDepth 100000 in
set_option maxHeartbeats 2000000 in
theorem send_scn_false (g t rb : Nat) (v pv ov : Value) (n : NegD) (r : RepD) (w : World) (h : NegAt w g t v n) (hr : RepAt w rb pv ov r) (hv : (r.verdict == 2) = false) :
    Calls Tryd.prog 34 #[.pointer (some ⟨g, 0, none⟩), .int .i64 9, .pointer (some ⟨rb, 0, none⟩)] w fun e w' =>
      ∃ u v', e = .returned (.tuple #[packV ⟨3, r.p.id, r.os, emptyB⟩ u, .bool true]) ∧ Sent w w' g t v v' n ⟨3, r.p.id, r.os, emptyB⟩ u := by
  have H := Lib.hid h
  obtain ⟨Ao, co, rfl, hnc, _, _⟩ := own_shape hr.orow
  have R := Lib.hid hr
  have hol := hr.fit.ol
  have r5 : w.cell? ⟨rb, 5, none⟩ = some (.int .i64 r.verdict) := hr.blk.cell 5
  have hrb : rb < w.heap.size := hr.blk.lt
  have hgl : g < w.heap.size := h.lt
  clear h hr
  go_enter Tryd.func34, Tryd.ntmps34
  go_wp2_with fail
  have H6 := Lib.hid (show NegTo (w.alloc (.cells #[.int .i64 0, .int .i64 0, .slice none 0 0, .string ⟨#[]⟩] 41)) _ g t v n from ⟨H.out.alloc (.cells #[.int .i64 0, .int .i64 0, .slice none 0 0, .string ⟨#[]⟩] 41), World.grownBy.refl _ _⟩)
  have HK6 := Lib.hid (Blk.new w 41 #[.int .i64 0, .int .i64 0, .slice none 0 0, .string ⟨#[]⟩])
  have R6 := Lib.hid (R.out.alloc (.cells #[.int .i64 0, .int .i64 0, .slice none 0 0, .string ⟨#[]⟩] 41))
  obtain ⟨W6, hW⟩ : ∃ W6, w.alloc (.cells #[.int .i64 0, .int .i64 0, .slice none 0 0, .string ⟨#[]⟩] 41) = W6 := ⟨_, rfl⟩
  have HW := Lib.hid hW
  simp only [hW] at HK6 R6 ⊢
  rw [hW] at H6
  clear hW r5 hv
  have hrbw : ¬ rb = w.heap.size := by omega
  have q1 := Turned.cell (g := w.heap.size) (show W6.cell? ⟨rb, 1, none⟩ = some (.int .i64 r.p.id) from R6.out.blk.cell 1) hrbw
  have q6 := Turned.cell (g := w.heap.size) (show W6.cell? ⟨rb, 6, none⟩ = some (.slice Ao r.os.length co) from R6.out.blk.cell 6) hrbw
  have HF := Lib.hid (show NegTo w W6 g t v n from by rw [← HW.out]; exact NegTo.from_alloc (by rw [HW.out]; exact H6.out))
  refine wp_region_sched [(0, false), (1, false), (2, false), (3, false), (4, false), (5, false), (6, false), (7, false), (8, false), (9, false), (10, true), (11, false), (12, true), (13, false)] (Turned.v (w := W6) (g := w.heap.size)) (nearC W6) (okay_turned (World.grownBy.refl _ _)) (by kernel_rfl) rfl (by kernel_rfl) (by kernel_rfl) ⟨⟨_, (Below.refl _ _).drew⟩, rfl⟩ ?_
  iterate 10 (refine sched_quiet rfl (fun K hK => ?_); go_simp; first | (refine hK _ ?_; clear hK K) | (apply Exists.intro; refine ⟨fun _ => ?_, hK _ ?_⟩; (fail); clear hK K))
  refine sched_eff rfl rfl (fun K hK w7 hw7 => ?_)
  go_simp
  obtain ⟨x, rfl⟩ := hw7
  clear q1 q6
  have hx := H6.out.at_.below x.below
  have hrx := R6.out.below x.below
  refine (clone_any r.os Ao r.os.length co x.v (Reads.of_own hrx.orow) rfl (by omega)).mono ?_
  rintro e w8 ⟨u, rfl, hown, hb8⟩
  have hb68 := below_trans' x.below x.below.size hb8
  obtain ⟨Au, cu, rfl, hcu, _, _⟩ := own_shape hown
  refine ⟨_, rfl, nearC w8, okay_turned (only_of_below hb68 _), nearC_self _, hK _ _ ?_⟩
  clear hK K
  iterate 1 (refine sched_quiet rfl (fun K hK => ?_); go_simp; first | (refine hK _ ?_; clear hK K) | (apply Exists.intro; refine ⟨fun _ => ?_, hK _ ?_⟩; (fail); clear hK K))
  refine sched_eff rfl rfl (fun K hK w9 hw9 => ?_)
  obtain ⟨y, rfl⟩ := hw9
  have hk9 := Blk.below (Blk.below HK6.out hb68 HK6.out.lt) y.below (Nat.lt_of_lt_of_le HK6.out.lt hb68.size)
  have k0 : y.v.cell? ⟨w.heap.size, 0, none⟩ = some (.int .i64 0) := hk9.cell 0
  have k1 : y.v.cell? ⟨w.heap.size, 1, none⟩ = some (.int .i64 0) := hk9.cell 1
  have k2 : y.v.cell? ⟨w.heap.size, 2, none⟩ = some (.slice none 0 0) := hk9.cell 2
  have k3 : y.v.cell? ⟨w.heap.size, 3, none⟩ = some (.string ⟨#[]⟩) := hk9.cell 3
  have kf := hk9.frozen
  go_simp
  obtain ⟨hs9, hs9'⟩ := set_four hk9 (.int .i64 3) (.int .i64 r.p.id) (.slice Au r.os.length cu) (.string ⟨#[]⟩)
  have hby := below_trans' hb68 hb68.size y.below
  have hn9 := (HF.out.below hby).fresh hs9' hk9 H.out.lt (Nat.le_refl _) (by decide) (by decide)
  have ho9 := own_grown' (own_below hown y.below) hs9' (own_blk_ne (own_below hown y.below) hk9 (by decide))
  refine ⟨nearC _, okay_turned (grown_row (only_of_below hby _) hs9'), nearC_self _, hK _ _ ?_⟩
  clear hK K
  iterate 1 (refine sched_quiet rfl (fun K hK => ?_); go_simp; first | (refine hK _ ?_; clear hK K) | (apply Exists.intro; refine ⟨fun _ => ?_, hK _ ?_⟩; (fail); clear hK K))
  refine sched_nil ?_
  rintro w10 ⟨z, rfl⟩
  have hkz := Blk.below hs9 z.below hs9.lt
  have z0 : z.v.cell? ⟨w.heap.size, 0, none⟩ = some (.int .i64 3) := hkz.cell 0
  have z1 : z.v.cell? ⟨w.heap.size, 1, none⟩ = some (.int .i64 r.p.id) := hkz.cell 1
  have z2 : z.v.cell? ⟨w.heap.size, 2, none⟩ = some (.slice Au r.os.length cu) := hkz.cell 2
  have z3 : z.v.cell? ⟨w.heap.size, 3, none⟩ = some (.string ⟨#[]⟩) := hkz.cell 3
  clear k0 k1 k2 k3 kf hk9 hs9 hkz
  go_wp2_with fail
  refine bodyPost_ret (v := .tuple #[packV ⟨3, r.p.id, r.os, emptyB⟩ (.slice Au r.os.length cu), .bool true]) (by simp [results, Tryd.results34, go_sem, packV, emptyB, z0, z1, z2, z3]) rfl
    ⟨.slice Au r.os.length cu, v, rfl, hn9.below z.below, own_base (own_below ho9 z.below) (Nat.le_trans HF.out.grown.size x.below.size), apart_old hown hx.row (Nat.le_refl _), .inl rfl⟩

end Go.Proofs.YthlfghheciamcaaDoor
