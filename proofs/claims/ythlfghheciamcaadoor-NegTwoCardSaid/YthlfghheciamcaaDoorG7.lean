/-
  Contracts of send, the last actions.
  Conditions: as each states.
-/
import Derived.Test.YthlfghheciamcaaDoorG6
namespace Go.Proofs.YthlfghheciamcaaDoor
open Go.RowKit
set_option linter.unusedVariables false

set_option maxRecDepth 100000 in
set_option maxHeartbeats 2000000 in
theorem send_str (g t rb : Nat) (v : Value) (n : NegD) (w : World) (h : NegAt w g t v n) :
    Calls Tryd.prog 34 #[.pointer (some ⟨g, 0, none⟩), .int .i64 10, .pointer (some ⟨rb, 0, none⟩)] w fun e w' =>
      ∃ u v', e = .returned (.tuple #[packV ⟨5, nextI n.id, [], emptyB⟩ u, .bool true]) ∧ Sent w w' g t v v' { n with left := max 0 (n.left - 1), id := nextI n.id } ⟨5, nextI n.id, [], emptyB⟩ u := by
  have H := Lib.hid h
  have hgl : g < w.heap.size := h.lt
  clear h
  go_enter Tryd.func34, Tryd.ntmps34
  go_wp2_with fail
  refine (count_any g t v n _ (H.out.alloc _)).mono ?_
  rintro e w2 ⟨rfl, h2⟩
  have HK2 := Lib.hid (Blk.grown (Blk.new w 41 #[.int .i64 0, .int .i64 0, .slice none 0 0, .string ⟨#[]⟩]) h2.grown (by simpa using fun e : w.heap.size = g => absurd H.out.lt (by omega)))
  have H2 := Lib.hid h2
  clear h2
  go_wp2_with fail
  refine (next_any g t v _ _ H2.out.at_).mono ?_
  rintro e w3 ⟨rfl, h3⟩
  have hk3 := HK2.out.grown h3.grown (by simpa using fun e : w.heap.size = g => absurd H.out.lt (by omega))
  have H3 := Lib.hid (H2.out.trans h3)
  have k0 : w3.cell? ⟨w.heap.size, 0, none⟩ = some (.int .i64 0) := hk3.cell 0
  have k1 : w3.cell? ⟨w.heap.size, 1, none⟩ = some (.int .i64 0) := hk3.cell 1
  have k2 : w3.cell? ⟨w.heap.size, 2, none⟩ = some (.slice none 0 0) := hk3.cell 2
  have k3 : w3.cell? ⟨w.heap.size, 3, none⟩ = some (.string ⟨#[]⟩) := hk3.cell 3
  have kf := hk3.frozen
  have HS := Lib.hid (set_four hk3 (.int .i64 5) (.int .i64 (nextI n.id)) (.slice none 0 0) (.string ⟨#[]⟩))
  have HK3 := Lib.hid hk3
  clear h3 hk3
  go_wp2_with fail
  refine bodyPost_ret (v := .tuple #[packV ⟨5, nextI n.id, [], emptyB⟩ (.slice none 0 0), .bool true]) (by simp [results, Tryd.results34, go_sem, packV, emptyB, k0, k1, k2, k3]) rfl
    ⟨.slice none 0 0, v, rfl, H3.out.from_alloc.fresh HS.out.2 HK3.out hgl (Nat.le_refl _) (by decide) (by decide), World.ownsRow_nil _ _ _ _, apart_nil _ _, .inl rfl⟩

set_option maxRecDepth 100000 in
set_option maxHeartbeats 2000000 in
theorem send_sta (g t rb : Nat) (v pv ov : Value) (n : NegD) (r : RepD) (w : World) (h : NegAt w g t v n) (hr : RepAt w rb pv ov r) :
    Calls Tryd.prog 34 #[.pointer (some ⟨g, 0, none⟩), .int .i64 11, .pointer (some ⟨rb, 0, none⟩)] w fun e w' =>
      ∃ u v', e = .returned (.tuple #[packV ⟨6, if r.event = 10 then r.p.id else 0, [], emptyB⟩ u, .bool true]) ∧ Sent w w' g t v v' n ⟨6, if r.event = 10 then r.p.id else 0, [], emptyB⟩ u := by
  have H := Lib.hid h
  have R := Lib.hid hr
  have r1 : w.cell? ⟨rb, 1, none⟩ = some (.int .i64 r.p.id) := hr.blk.cell 1
  have r4 : w.cell? ⟨rb, 4, none⟩ = some (.int .i64 r.event) := hr.blk.cell 4
  have hrb : rb < w.heap.size := hr.blk.lt
  have hgl : g < w.heap.size := h.lt
  clear h hr
  rcases he : (r.event == 10) with _ | _
  · have HI := Lib.hid (show (if r.event = 10 then r.p.id else 0) = 0 by rw [if_neg (by simpa using he)])
    rw [HI.out]
    go_enter Tryd.func34, Tryd.ntmps34
    go_wp2_with fail
    refine bodyPost_ret (v := .tuple #[packV ⟨6, 0, [], emptyB⟩ (.slice none 0 0), .bool true]) (by simp [results, Tryd.results34, go_sem, packV, emptyB]) rfl
      ⟨.slice none 0 0, v, rfl, ⟨(H.out.alloc _).alloc _, only_alloc (only_alloc (World.grownBy.refl _ _) _) _⟩, World.ownsRow_nil _ _ _ _, apart_nil _ _, .inl rfl⟩
  · have HI := Lib.hid (show (if r.event = 10 then r.p.id else 0) = r.p.id by rw [if_pos (by simpa using he)])
    rw [HI.out]
    go_enter Tryd.func34, Tryd.ntmps34
    go_wp2_with fail
    refine bodyPost_ret (v := .tuple #[packV ⟨6, r.p.id, [], emptyB⟩ (.slice none 0 0), .bool true]) (by simp [results, Tryd.results34, go_sem, packV, emptyB]) rfl
      ⟨.slice none 0 0, v, rfl, ⟨(H.out.alloc _).alloc _, only_alloc (only_alloc (World.grownBy.refl _ _) _) _⟩, World.ownsRow_nil _ _ _ _, apart_nil _ _, .inl rfl⟩

set_option maxRecDepth 100000 in
set_option maxHeartbeats 2000000 in
theorem send_ser (g t rb : Nat) (v pv ov : Value) (n : NegD) (r : RepD) (w : World) (h : NegAt w g t v n) (hr : RepAt w rb pv ov r) :
    Calls Tryd.prog 34 #[.pointer (some ⟨g, 0, none⟩), .int .i64 13, .pointer (some ⟨rb, 0, none⟩)] w fun e w' =>
      ∃ u v', e = .returned (.tuple #[packV ⟨10, r.p.id, [], r.p.data⟩ u, .bool (r.p.code == 9)]) ∧ Sent w w' g t v v' n ⟨10, r.p.id, [], r.p.data⟩ u := by
  have H := Lib.hid h
  have R := Lib.hid hr
  have hrb : rb < w.heap.size := hr.blk.lt
  have hgl : g < w.heap.size := h.lt
  clear h hr
  go_enter Tryd.func34, Tryd.ntmps34
  go_wp2_with fail
  have HK6 := Lib.hid (Blk.new w 41 #[.int .i64 0, .int .i64 0, .slice none 0 0, .string ⟨#[]⟩])
  have R6 := Lib.hid (R.out.alloc (.cells #[.int .i64 0, .int .i64 0, .slice none 0 0, .string ⟨#[]⟩] 41))
  have HF := Lib.hid (show NegTo w (w.alloc (.cells #[.int .i64 0, .int .i64 0, .slice none 0 0, .string ⟨#[]⟩] 41)) g t v n from ⟨H.out.alloc _, only_alloc (World.grownBy.refl _ _) _⟩)
  generalize w.alloc (.cells #[.int .i64 0, .int .i64 0, .slice none 0 0, .string ⟨#[]⟩] 41) = W6 at *
  have hrbw : ¬ rb = w.heap.size := by omega
  have q0 := Turned.cell (g := w.heap.size) (show W6.cell? ⟨rb, 0, none⟩ = some (.int .i64 r.p.code) from R6.out.blk.cell 0) hrbw
  have q1 := Turned.cell (g := w.heap.size) (show W6.cell? ⟨rb, 1, none⟩ = some (.int .i64 r.p.id) from R6.out.blk.cell 1) hrbw
  have q3 := Turned.cell (g := w.heap.size) (show W6.cell? ⟨rb, 3, none⟩ = some (.string r.p.data) from R6.out.blk.cell 3) hrbw
  refine wp_region_sched [(0, false), (1, false), (2, false), (3, false), (4, false), (5, false), (6, false), (7, false), (8, false), (9, false), (10, false), (11, false), (12, false), (13, false), (14, false), (15, false), (16, false), (17, true), (18, false)] (Turned.v (w := W6) (g := w.heap.size)) (nearC W6) (okay_turned (World.grownBy.refl _ _)) (by kernel_rfl) rfl (by kernel_rfl) (by kernel_rfl) ⟨⟨_, (Below.refl _ _).drew⟩, rfl⟩ ?_
  iterate 17 (refine sched_quiet rfl (fun K hK => ?_); go_simp; first | (refine hK _ ?_; clear hK K) | (apply Exists.intro; refine ⟨fun _ => ?_, hK _ ?_⟩; (fail); clear hK K))
  refine sched_eff rfl rfl (fun K hK w9 hw9 => ?_)
  obtain ⟨y, rfl⟩ := hw9
  have hk9 := Blk.below HK6.out y.below HK6.out.lt
  have k0 : y.v.cell? ⟨w.heap.size, 0, none⟩ = some (.int .i64 0) := hk9.cell 0
  have k1 : y.v.cell? ⟨w.heap.size, 1, none⟩ = some (.int .i64 0) := hk9.cell 1
  have k2 : y.v.cell? ⟨w.heap.size, 2, none⟩ = some (.slice none 0 0) := hk9.cell 2
  have k3 : y.v.cell? ⟨w.heap.size, 3, none⟩ = some (.string ⟨#[]⟩) := hk9.cell 3
  have kf := hk9.frozen
  clear q0 q1 q3
  go_simp
  obtain ⟨hs9, hs9'⟩ := set_four hk9 (.int .i64 10) (.int .i64 r.p.id) (.slice none 0 0) (.string r.p.data)
  have hn9 := (HF.out.below y.below).fresh hs9' hk9 hgl (Nat.le_refl _) (by decide) (by decide)
  refine ⟨nearC _, okay_turned (grown_row (only_of_below y.below _) hs9'), nearC_self _, hK _ _ ?_⟩
  clear hK K
  iterate 1 (refine sched_quiet rfl (fun K hK => ?_); go_simp; first | (refine hK _ ?_; clear hK K) | (apply Exists.intro; refine ⟨fun _ => ?_, hK _ ?_⟩; (fail); clear hK K))
  refine sched_nil ?_
  rintro w10 ⟨z, rfl⟩
  have hkz := Blk.below hs9 z.below hs9.lt
  have z0 : z.v.cell? ⟨w.heap.size, 0, none⟩ = some (.int .i64 10) := hkz.cell 0
  have z1 : z.v.cell? ⟨w.heap.size, 1, none⟩ = some (.int .i64 r.p.id) := hkz.cell 1
  have z2 : z.v.cell? ⟨w.heap.size, 2, none⟩ = some (.slice none 0 0) := hkz.cell 2
  have z3 : z.v.cell? ⟨w.heap.size, 3, none⟩ = some (.string r.p.data) := hkz.cell 3
  clear k0 k1 k2 k3 kf hk9 hs9 hkz
  go_wp2_with fail
  refine bodyPost_ret (v := .tuple #[packV ⟨10, r.p.id, [], r.p.data⟩ (.slice none 0 0), .bool (r.p.code == 9)]) (by simp [results, Tryd.results34, go_sem, packV, z0, z1, z2, z3]) rfl
    ⟨.slice none 0 0, v, rfl, hn9.below z.below, World.ownsRow_nil _ _ _ _, apart_nil _ _, .inl rfl⟩

theorem take_string (L : List UInt8) : (⟨L.toArray⟩ : ByteArray).extract 0 (min (L.length : Int) 64).toNat = ⟨(L.take 64).toArray⟩ := by
  have e : (min (L.length : Int) 64).toNat = min L.length 64 := by omega
  rw [e]
  apply ByteArray.ext
  rw [ByteArray.data_extract]
  simp [List.take_eq_take_iff]
  omega
theorem controlPut_len (p : PackD) : (controlPut p).1.length ≤ 2048 := by
  unfold controlPut
  split
  · simp
  · split
    · simp
    · split
      · simp
      · rename_i h
        simp only [List.length_append, List.length_cons, List.length_nil]
        show 0 + 1 + 1 + 1 + 1 + ((optsPut p.opts).1.length + p.data.size) ≤ 2048
        omega

set_option maxRecDepth 100000 in
set_option maxHeartbeats 2000000 in
theorem send_scj (g t rb : Nat) (v pv ov : Value) (n : NegD) (r : RepD) (w : World) (h : NegAt w g t v n) (hr : RepAt w rb pv ov r) :
    Calls Tryd.prog 34 #[.pointer (some ⟨g, 0, none⟩), .int .i64 12, .pointer (some ⟨rb, 0, none⟩)] w fun e w' =>
      ∃ u v', e = .returned (.tuple #[packV ⟨7, nextI n.id, [], ⟨((controlPut r.p).1.take 64).toArray⟩⟩ u, .bool true]) ∧ Sent w w' g t v v' { n with id := nextI n.id } ⟨7, nextI n.id, [], ⟨((controlPut r.p).1.take 64).toArray⟩⟩ u := by
  have H := Lib.hid h
  have R := Lib.hid hr
  obtain ⟨Ao, co, rfl, hnc, _, _⟩ := own_shape hr.prow
  have hrb : rb < w.heap.size := hr.blk.lt
  have hgl : g < w.heap.size := h.lt
  have r0 : w.cell? ⟨rb, 0, none⟩ = some (.int .i64 r.p.code) := hr.blk.cell 0
  have r1 : w.cell? ⟨rb, 1, none⟩ = some (.int .i64 r.p.id) := hr.blk.cell 1
  have r2 : w.cell? ⟨rb, 2, none⟩ = some (.slice Ao r.p.opts.length co) := hr.blk.cell 2
  have r3 : w.cell? ⟨rb, 3, none⟩ = some (.string r.p.data) := hr.blk.cell 3
  have hpl := hr.fit.pl
  clear h hr
  go_enter Tryd.func34, Tryd.ntmps34
  go_wp2_with fail
  clear r0 r1 r2 r3
  have R5 := R.out.alloc (.cells #[.int .i64 0, .int .i64 0, .slice none 0 0, .string ⟨#[]⟩] 41)
  refine (controlPut_any r.p Ao r.p.opts.length co _ (Reads.of_own R5.prow) rfl (by omega) R5.fit.pd R5.fit.dd).mono ?_
  rintro e w6 ⟨rfl, hb6⟩
  have HK6 := Lib.hid (Blk.below (Blk.new w 41 #[.int .i64 0, .int .i64 0, .slice none 0 0, .string ⟨#[]⟩]) hb6 (by simp))
  have HF := Lib.hid (show NegTo w w6 g t v n from ⟨(H.out.alloc _).below hb6, only_below (only_alloc (World.grownBy.refl _ _) _) hb6⟩)
  generalize (controlPut r.p).2 = er
  have HL := Lib.hid (controlPut_len r.p)
  generalize hcl : (controlPut r.p).1 = L
  have HCL := Lib.hid hcl
  rw [hcl] at HL
  clear hcl hb6 R5
  go_wp2_with fail
  refine wp_region_sched [(0, false), (2, false), (3, false), (4, false), (5, false), (6, false), (1, true), (7, false), (8, true), (9, false)] (fun w : World => w) (nearC w6) (okay_world _) (by kernel_rfl) rfl (by kernel_rfl) (by kernel_rfl) ⟨⟨_, (Below.refl _ _).drew⟩, rfl⟩ ?_
  have hm0 : 0 ≤ min (L.length : Int) 64 := by omega
  have hm1 : min (L.length : Int) 64 ≤ (L.length : Int) := by omega
  iterate 6 (refine sched_quiet rfl (fun K hK => ?_); go_simp; first | (refine hK _ ?_; clear hK K) | (apply Exists.intro; refine ⟨fun _ => ?_, hK _ ?_⟩; (fail); clear hK K))
  have HX := Lib.hid (take_string L)
  refine sched_eff rfl rfl (fun K hK w7 hw7 => ?_)
  go_simp
  rw [HX.out]
  obtain ⟨x, rfl⟩ := hw7
  refine (next_any g t v n x.v (HF.out.at_.below x.below)).mono ?_
  rintro e w8 ⟨rfl, h8⟩
  have H8 := Lib.hid ((HF.out.below x.below).trans h8)
  have HK8 := Lib.hid ((Blk.below HK6.out x.below HK6.out.lt).grown h8.grown (by simpa using fun e : w.heap.size = g => absurd hgl (by omega)))
  refine ⟨_, rfl, nearC w8, okay_world _, nearC_self _, hK _ _ ?_⟩
  clear hK K h8 hm0 hm1
  iterate 1 (refine sched_quiet rfl (fun K hK => ?_); go_simp; first | (refine hK _ ?_; clear hK K) | (apply Exists.intro; refine ⟨fun _ => ?_, hK _ ?_⟩; (fail); clear hK K))
  refine sched_eff rfl rfl (fun K hK w9 hw9 => ?_)
  obtain ⟨y, rfl⟩ := hw9
  have hk9 := Blk.below HK8.out y.below HK8.out.lt
  have k0 : y.v.cell? ⟨w.heap.size, 0, none⟩ = some (.int .i64 0) := hk9.cell 0
  have k1 : y.v.cell? ⟨w.heap.size, 1, none⟩ = some (.int .i64 0) := hk9.cell 1
  have k2 : y.v.cell? ⟨w.heap.size, 2, none⟩ = some (.slice none 0 0) := hk9.cell 2
  have k3 : y.v.cell? ⟨w.heap.size, 3, none⟩ = some (.string ⟨#[]⟩) := hk9.cell 3
  have kf := hk9.frozen
  go_simp
  obtain ⟨hs9, hs9'⟩ := set_four hk9 (.int .i64 7) (.int .i64 (nextI n.id)) (.slice none 0 0) (.string ⟨(L.take 64).toArray⟩)
  have hn9 := (H8.out.below y.below).fresh hs9' hk9 hgl (Nat.le_refl _) (by decide) (by decide)
  refine ⟨nearC _, okay_world _, nearC_self _, hK _ _ ?_⟩
  clear hK K
  iterate 1 (refine sched_quiet rfl (fun K hK => ?_); go_simp; first | (refine hK _ ?_; clear hK K) | (apply Exists.intro; refine ⟨fun _ => ?_, hK _ ?_⟩; (fail); clear hK K))
  refine sched_nil ?_
  rintro w10 ⟨z, rfl⟩
  have hkz := Blk.below hs9 z.below hs9.lt
  have z0 : z.v.cell? ⟨w.heap.size, 0, none⟩ = some (.int .i64 7) := hkz.cell 0
  have z1 : z.v.cell? ⟨w.heap.size, 1, none⟩ = some (.int .i64 (nextI n.id)) := hkz.cell 1
  have z2 : z.v.cell? ⟨w.heap.size, 2, none⟩ = some (.slice none 0 0) := hkz.cell 2
  have z3 : z.v.cell? ⟨w.heap.size, 3, none⟩ = some (.string ⟨(L.take 64).toArray⟩) := hkz.cell 3
  clear k0 k1 k2 k3 kf hk9 hs9 hkz
  go_wp2_with fail
  rw [HCL.out]
  refine bodyPost_ret (v := .tuple #[packV ⟨7, nextI n.id, [], ⟨(L.take 64).toArray⟩⟩ (.slice none 0 0), .bool true]) (by simp only [results, Tryd.results34, go_sem, packV]; go_simp) rfl
    ⟨.slice none 0 0, v, rfl, hn9.below z.below, World.ownsRow_nil _ _ _ _, apart_nil _ _, .inl rfl⟩
end Go.Proofs.YthlfghheciamcaaDoor
