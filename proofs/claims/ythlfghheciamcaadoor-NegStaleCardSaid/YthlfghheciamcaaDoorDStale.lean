/-
  NegStale: an answer to an elder request does nothing: the law answers true at every link and all numbers.
  Conditions: none.
-/
import Derived.Test.YthlfghheciamcaaDoorY1
namespace Go.Proofs.YthlfghheciamcaaDoor
open Go.RowKit Go.Joins Go.ChangeShapes Go.WideShapes Go.Deep Go.ChangeAt
open Go.ChangeMaps (open_string shut_string)
set_option linter.unusedVariables false

/-- an answer to another request: nothing -/
theorem take_stale {n : NegD} {c i : Int} {os : List OptD} (h : SmallO os) (hc : c = 2 ∨ c = 3 ∨ c = 4) (hi : 0 ≤ i) (hi2 : i ≤ 255) (hs : n.state = 6) (hn : ¬ i = n.asked) : takeD n ⟨c, i, os, emptyB⟩ = (n, [], 0) := by
  have hp := put_conf (c := c) (i := i) h (by omega) (by omega) hi hi2
  unfold takeD
  rw [if_neg (by rw [hp]; simp), if_neg (by omega)]
  rcases hc with rfl | rfl | rfl
  · rw [eventD_ack (r := repOf ⟨2, i, os, emptyB⟩) rfl]
    have : ((repOf ⟨2, i, os, emptyB⟩).p.id == n.asked && decide ((repOf ⟨2, i, os, emptyB⟩).p.opts = n.os)) = false := by
      rw [beq_eq_false_iff_ne.2 (show (repOf ⟨2, i, os, emptyB⟩).p.id ≠ n.asked from hn)]; rfl
    rw [this]; rfl
  · rw [eventD_no (r := repOf ⟨3, i, os, emptyB⟩) (.inl rfl) hn]; rfl
  · rw [eventD_no (r := repOf ⟨4, i, os, emptyB⟩) (.inr rfl) hn]; rfl

theorem and_255 (n : Nat) (h : n < 9223372036854775808) : bits .and .i64 (n : Int) 255 = ((n % 256 : Nat) : Int) := by
  have e : (n &&& 255) = n % 256 := Nat.and_two_pow_sub_one_eq_mod n 8
  have hx : n &&& 255 < 2 ^ 63 := by rw [e]; omega
  show IntKind.i64.wrap ((BitVec.ofInt 64 (n : Int) &&& BitVec.ofInt 64 ((255 : Nat) : Int)).toNat : Int) = _
  rw [BitVec.toNat_and, i64_ofInt n h, i64_ofInt 255 (by omega), IntKind.wrap_i64, e]
  omega
theorem stale_i (id : Int) : ∃ i, bits .and .i64 (wrap64 (2 + wrap64 ((IntKind.u64.wrap id).tmod 255))) 255 = i ∧ 0 ≤ i ∧ i ≤ 255 ∧ ¬ i = 1 := by
  have h0 : 0 ≤ IntKind.u64.wrap id := wrap_u64_nonneg id
  obtain ⟨x, hx⟩ := Int.eq_ofNat_of_zero_le h0
  rw [hx]
  have e : ((x : Int).tmod 255) = ((x % 255 : Nat) : Int) := by rw [Int.tmod_eq_emod_of_nonneg (by omega)]; omega
  have e2 : wrap64 (2 + wrap64 ((x : Int).tmod 255)) = ((2 + x % 255 : Nat) : Int) := by rw [e]; unfold wrap64; omega
  rw [e2, and_255 _ (by omega)]
  exact ⟨_, rfl, by omega, by omega, by omega⟩
theorem stale_r (code : Int) : ∃ r, (IntKind.u64.wrap code).tmod 3 = r ∧ (r = 0 ∨ r = 1 ∨ r = 2) := by
  have h0 : 0 ≤ IntKind.u64.wrap code := wrap_u64_nonneg code
  obtain ⟨x, hx⟩ := Int.eq_ofNat_of_zero_le h0
  rw [hx]
  have e : ((x : Int).tmod 3) = ((x % 3 : Nat) : Int) := by rw [Int.tmod_eq_emod_of_nonneg (by omega)]; omega
  rw [e]
  exact ⟨_, rfl, by omega⟩
theorem packs_ne {w : World} {base b m c g : Nat} {nv : Value} {ps : List PackD} {T : TypeId} {cs : Array Value} (h : PacksAt w base (.slice (some ⟨b, 0, none⟩) m c) nv ps) (hk : Blk w g T cs) (ht : T ≠ 41) : ¬ b = g := by
  obtain ⟨l, _, hp⟩ := h
  intro e
  exact own_blk_ne hp.row hk (fun e => ht e.symm) (by rw [e]; rfl)

set_option maxRecDepth 100000 in
set_option maxHeartbeats 4000000 in
theorem walk_negStale (a : LinkD) (id code : Int) (w : World) (hm : HasMax w) :
    Calls Tryd.prog 8 #[.agg #[.int .i64 a.mru, .int .i64 a.magic, .int .i64 a.mrru, .bool a.short, .string a.disc, .int .i64 a.num], .int .i64 id, .int .i64 code] w fun e w' => e = .returned (.bool true) ∧ Below w.heap.size w w' := by
  have HM := Lib.hid hm
  clear hm
  go_enter Tryd.func8, Tryd.ntmps8
  go_wp2_with fail
  refine (awake_any _ (HM.out.below ((Below.refl _ _).alloc (Nat.le_refl _) _) HM.out.pos)).mono ?_
  rintro e w1 ⟨rfl, hb1⟩
  have hl1 := LinkAt.below (LinkAt.new w a) hb1
  have B1 := Lib.hid (below_trans' ((Below.refl w.heap.size w).alloc (Nat.le_refl _) (.cells a.cells 23)) (by simp) hb1)
  have M1 := Lib.hid (HM.out.below B1.out HM.out.pos)
  obtain ⟨c0, c1, c2, c3, c4, c5⟩ := hl1.cells
  have L1 := Lib.hid hl1
  clear hb1 hl1
  go_wp2_with fail
  rcases hma : a.may with _ | _
  · refine (New_no a 8 _ (by simp [newFits, hma])).mono ?_
    rintro e w2 ⟨rfl, hb2⟩
    obtain ⟨d0, d1, d2, d3, d4, d5⟩ := (L1.out.below hb2).cells
    have B2 := Lib.hid (below_trans' B1.out B1.out.size hb2)
    clear hb2 c0 c1 c2 c3 c4 c5
    go_wp2_with (first | (go_at_call 14; refine (may_ref a _).mono ?_; rw [hma]; rintro e w3 ⟨rfl, hb3⟩; have B3 := Lib.hid (below_trans' B2.out B2.out.size hb3); clear hb3) | (go_at_call 13; refine (num_any _ _).mono ?_; rintro e w' ⟨rfl, rfl⟩))
    go_ret
    exact ⟨rfl, B3.out⟩
  · refine (New_yes a 8 _ (by simp [newFits, hma])).mono ?_
    rintro e w2 ⟨g, t, v, rfl, hn2, hb2, hg2⟩
    have L2 := Lib.hid (L1.out.below hb2)
    have B2 := Lib.hid (below_trans' B1.out B1.out.size hb2)
    have N2 := Lib.hid hn2
    have hgw : w.heap.size ≤ g := Nat.le_trans B1.out.size hg2
    have hgl : w.heap.size < w1.heap.size := L1.out.lt
    have hgx : g ≠ w.heap.size := by omega
    have M2 := Lib.hid (M1.out.below hb2 M1.out.pos)
    clear hb2 hn2 c0 c1 c2 c3 c4 c5
    go_wp2_with (go_at_call 13; refine (num_any _ _).mono ?_; rintro e w' ⟨rfl, rfl⟩)
    have hd := Do_took g t v (newD a 8) 2 _ N2.out M2.out
    rw [do_open0 rfl] at hd
    have HDO := Lib.hid hd
    clear hd
    refine HDO.out.mono ?_
    clear HDO
    rintro e w3 ⟨⟨V3, v3, he, hn, hp⟩⟩
    simp only at he hn hp
    subst he
    have N3 := Lib.hid hn.at_
    have M3 := Lib.hid (M2.out.neg N2.out hn)
    have G3 := Lib.hid hn.grown
    clear hn hp
    go_wp2_with fail
    have hd := Do_took g t v3 _ 0 _ N3.out M3.out
    rw [do_up1 rfl] at hd
    have HDO := Lib.hid hd
    clear hd
    refine HDO.out.mono ?_
    clear HDO
    rintro e w4 ⟨⟨V4, v4, he, hn, hp⟩⟩
    simp only at he hn hp
    subst he
    have N4 := Lib.hid hn.at_
    have M4 := Lib.hid (M3.out.neg N3.out hn)
    have G4 := Lib.hid (grown_row G3.out hn.grown)
    obtain ⟨b4, q4, _, rfl, -⟩ := packs_head hp
    obtain ⟨x0, x1', x3, u4, x2, ho4⟩ := packs_cells hp
    have hne4 := packs_ne hp hn.at_.blk (by decide)
    have x1 : w4.cell? ⟨b4, 1, none⟩ = some (.int .i64 1) := x1'
    have ho4' : w4.ownsRow w3.heap.size 79 2 u4 a.ask.length (optCells a.ask) := ho4
    obtain ⟨A4, c4, rfl, hc4, _, _⟩ := own_shape ho4'
    have O4 := Lib.hid ho4'
    have hb4l := World.block_lt_of_cell? w4 _ x1
    clear hn hp x0 x1' x3 ho4 ho4'
    have h4 := Lib.hid (show (scr { ({ (newD a 8) with state := 1 } : NegD) with state := 6, left := (newD a 8).tries }).state = 6 ∧ (scr { ({ (newD a 8) with state := 1 } : NegD) with state := 6, left := (newD a 8).tries }).left = 7 ∧ (scr { ({ (newD a 8) with state := 1 } : NegD) with state := 6, left := (newD a 8).tries }).asked = 1 ∧ (scr { ({ (newD a 8) with state := 1 } : NegD) with state := 6, left := (newD a 8).tries }).own = a from ⟨rfl, rfl, rfl, rfl⟩)
    generalize scr { ({ (newD a 8) with state := 1 } : NegD) with state := 6, left := (newD a 8).tries } = n4 at N4 h4
    obtain ⟨i, hi, hi0, hi1, hi2⟩ := stale_i id
    have HI := Lib.hid hi
    clear hi
    go_wp2_with fail
    rw [HI.out]
    have L4 := Lib.hid (show LinkAt w4 w.heap.size a from Blk.grown L2.out G4.out (by simp; omega))
    have K4 := Lib.hid (Blk.new w4 3 #[.int .i64 2, .int .i64 3, .int .i64 4])
    have N5 := Lib.hid (N4.out.alloc (.cells #[.int .i64 2, .int .i64 3, .int .i64 4] 3))
    have M5 := Lib.hid (M4.out.below ((Below.refl _ _).alloc (Nat.le_refl _) (.cells #[.int .i64 2, .int .i64 3, .int .i64 4] 3)) M4.out.pos)
    have O5 := Lib.hid (O4.out.alloc (.cells #[.int .i64 2, .int .i64 3, .int .i64 4] 3))
    have L5 := Lib.hid (L4.out.alloc (.cells #[.int .i64 2, .int .i64 3, .int .i64 4] 3))
    have G5 := Lib.hid (only_alloc G4.out (.cells #[.int .i64 2, .int .i64 3, .int .i64 4] 3))
    have x5 : (w4.alloc (.cells #[.int .i64 2, .int .i64 3, .int .i64 4] 3)).cell? ⟨b4, 2, none⟩ = some (.slice A4 a.ask.length c4) := by rw [World.cell?_alloc_lt _ _ _ hb4l]; exact x2
    have hg4 := N4.out.lt
    clear x1 x2 N4 M4 O4 L4 G4 L2 N3 M3 G3 N2 M2 L1 M1
    generalize hz4 : w4.heap.size = z4 at *
    generalize w4.alloc (.cells #[.int .i64 2, .int .i64 3, .int .i64 4] 3) = W5 at *
    have qx := Turned.cell (g := g) x5 hne4
    have hzg : ¬ z4 = g := by omega
    have q0 := Turned.cell (g := g) (show W5.cell? ⟨z4, 0, none⟩ = some (.int .i64 2) from K4.out.cell 0) hzg
    have q1 := Turned.cell (g := g) (show W5.cell? ⟨z4, 1, none⟩ = some (.int .i64 3) from K4.out.cell 1) hzg
    have q2 := Turned.cell (g := g) (show W5.cell? ⟨z4, 2, none⟩ = some (.int .i64 4) from K4.out.cell 2) hzg
    obtain ⟨r, hr, hr3⟩ := stale_r code
    have hsm := Lib.hid (ask_small6 hma)
    rcases hr3 with rfl | rfl | rfl
    · refine wp_region_sched [(0, false), (1, false), (2, false), (3, false), (4, false), (5, false), (6, false), (7, false), (8, false), (9, false), (10, false), (11, false), (12, false), (13, true), (14, false), (15, false), (16, false), (17, false), (18, false)] (Turned.v (w := W5) (g := g)) (nearC W5) (okay_turned (World.grownBy.refl _ _)) (by kernel_rfl) rfl (by kernel_rfl) (by kernel_rfl) ⟨⟨_, (Below.refl _ _).drew⟩, rfl⟩ ?_
      iterate 13 (refine sched_quiet rfl (fun K hK => ?_); go_simp; first | (refine hK _ ?_; clear hK K) | (apply Exists.intro; refine ⟨fun _ => ?_, hK _ ?_⟩; (fail); clear hK K))
      clear qx q0 q1 q2 hr
      refine sched_eff rfl rfl (fun K hK w6 hw6 => ?_)
      go_simp
      obtain ⟨x, rfl⟩ := hw6
      have N6 := Lib.hid (N5.out.below x.below)
      have hd := Take_took g t v4 n4 ⟨2, i, a.ask, emptyB⟩ A4 a.ask.length c4 x.v N6.out (M5.out.below x.below M5.out.pos) (Reads.of_own (own_below O5.out x.below)) rfl (by have := hsm.out.len; omega) (fun o ho => by have := hsm.out.data o ho; omega) empty_small
      rw [take_stale hsm.out (by omega) hi0 hi1 h4.out.1 (by rw [h4.out.2.2.1]; exact hi2)] at hd
      have HDO := Lib.hid hd
      clear hd
      refine HDO.out.mono ?_
      clear HDO
      rintro e w7 ⟨⟨V7, v7, he, hn, hp⟩⟩
      simp only at he hn hp
      subst he
      obtain ⟨A7, q7, rfl⟩ := packs_nil hp
      have N7 := Lib.hid hn.at_
      have hW57 := grown_row (only_of_below x.below (some g)) hn.grown
      have G7 := Lib.hid (grown_row G5.out hW57)
      have L7 := Lib.hid (show LinkAt w7 w.heap.size a from Blk.grown L5.out hW57 (by simp; omega))
      refine ⟨_, rfl, nearC w7, okay_turned hW57, nearC_self _, hK _ _ ?_⟩
      clear hK K hn hp hW57
      iterate 5 (refine sched_quiet rfl (fun K hK => ?_); go_simp; first | (refine hK _ ?_; clear hK K) | (apply Exists.intro; refine ⟨fun _ => ?_, hK _ ?_⟩; (fail); clear hK K))
      refine sched_nil ?_
      rintro w8 ⟨y, rfl⟩
      have N8 := Lib.hid (N7.out.below y.below)
      have L8 := Lib.hid (L7.out.below y.below)
      have G8 := Lib.hid (only_below G7.out y.below)
      clear N7 L7 G7 N6 N5 L5 G5 K4 O5 M5
      generalize y.v = W8 at *
      obtain ⟨d0, d1, d2, d3, d4, d5⟩ := L8.out.cells
      have n0 := Near.cell d0
      have n1 := Near.cell d1
      have n2 := Near.cell d2
      have n3 := Near.cell d3
      have n4' := Near.cell d4
      have n5 := Near.cell d5
      have hst : ∀ z : Near W8, Calls Tryd.prog 16 #[.pointer (some ⟨g, 0, none⟩)] z.v fun e w' => e = .returned (.int .i64 6) ∧ z.v = w' := fun z => by rw [← h4.out.1]; exact State_any g t v7 n4 z.v (N8.out.below z.below)
      have hlf : ∀ z : Near W8, Calls Tryd.prog 21 #[.pointer (some ⟨g, 0, none⟩)] z.v fun e w' => e = .returned (.int .i64 7) ∧ z.v = w' := fun z => by rw [← h4.out.2.1]; exact Left_any g t v7 n4 z.v (N8.out.below z.below)
      have how : ∀ z : Near W8, Calls Tryd.prog 20 #[.pointer (some ⟨g, 0, none⟩)] z.v fun e w' => e = .returned (.agg #[.int .i64 a.mru, .int .i64 a.magic, .int .i64 a.mrru, .bool a.short, .string a.disc, .int .i64 a.num]) ∧ Below z.v.heap.size z.v w' := fun z => by have := Own_any g t v7 n4 z.v (N8.out.below z.below); rw [h4.out.2.2.2] at this; exact this
      have HST := Lib.hid hst
      have HLF := Lib.hid hlf
      have HOW := Lib.hid how
      have hee : ∀ w, (binOp .eql 23 (.agg #[.int .i64 a.mru, .int .i64 a.magic, .int .i64 a.mrru, .bool a.short, .string a.disc, .int .i64 a.num]) (.agg #[.int .i64 a.mru, .int .i64 a.magic, .int .i64 a.mrru, .bool a.short, .string a.disc, .int .i64 a.num])).run Tryd.prog w = .ok (.bool true) w := fun w => by
        have := link_eql a a w
        rw [LinkD.eqB_iff] at this
        simpa using this
      clear hst hlf how d0 d1 d2 d3 d4 d5
      go_wp2_with fail
      refine wp_region_near (by kernel_rfl) (by kernel_rfl) ?_
      repeat (go_big_quiet_step ((first | (go_at_call 13; exact near_of_same (num_any _ _)) | (go_at_call 16; exact near_of_same (HST.out _)) | (go_at_call 20; exact near_of (HOW.out _)) | (go_at_call 21; exact near_of_same (HLF.out _)))))
      refine wpQuiet_nil ?_
      intro z
      clear n0 n1 n2 n3 n4' n5 hee
      go_wp2_with fail
      go_ret
      exact ⟨rfl, below_trans' (below_of_only G8.out B2.out hgw) (Nat.le_trans B2.out.size G8.out.size) z.below⟩
    · refine wp_region_sched [(0, false), (1, false), (2, false), (3, false), (4, false), (5, false), (6, false), (7, false), (8, false), (9, false), (10, false), (11, false), (12, false), (13, true), (14, false), (15, false), (16, false), (17, false), (18, false)] (Turned.v (w := W5) (g := g)) (nearC W5) (okay_turned (World.grownBy.refl _ _)) (by kernel_rfl) rfl (by kernel_rfl) (by kernel_rfl) ⟨⟨_, (Below.refl _ _).drew⟩, rfl⟩ ?_
      iterate 13 (refine sched_quiet rfl (fun K hK => ?_); go_simp; first | (refine hK _ ?_; clear hK K) | (apply Exists.intro; refine ⟨fun _ => ?_, hK _ ?_⟩; (fail); clear hK K))
      clear qx q0 q1 q2 hr
      refine sched_eff rfl rfl (fun K hK w6 hw6 => ?_)
      go_simp
      obtain ⟨x, rfl⟩ := hw6
      have N6 := Lib.hid (N5.out.below x.below)
      have hd := Take_took g t v4 n4 ⟨3, i, a.ask, emptyB⟩ A4 a.ask.length c4 x.v N6.out (M5.out.below x.below M5.out.pos) (Reads.of_own (own_below O5.out x.below)) rfl (by have := hsm.out.len; omega) (fun o ho => by have := hsm.out.data o ho; omega) empty_small
      rw [take_stale hsm.out (by omega) hi0 hi1 h4.out.1 (by rw [h4.out.2.2.1]; exact hi2)] at hd
      have HDO := Lib.hid hd
      clear hd
      refine HDO.out.mono ?_
      clear HDO
      rintro e w7 ⟨⟨V7, v7, he, hn, hp⟩⟩
      simp only at he hn hp
      subst he
      obtain ⟨A7, q7, rfl⟩ := packs_nil hp
      have N7 := Lib.hid hn.at_
      have hW57 := grown_row (only_of_below x.below (some g)) hn.grown
      have G7 := Lib.hid (grown_row G5.out hW57)
      have L7 := Lib.hid (show LinkAt w7 w.heap.size a from Blk.grown L5.out hW57 (by simp; omega))
      refine ⟨_, rfl, nearC w7, okay_turned hW57, nearC_self _, hK _ _ ?_⟩
      clear hK K hn hp hW57
      iterate 5 (refine sched_quiet rfl (fun K hK => ?_); go_simp; first | (refine hK _ ?_; clear hK K) | (apply Exists.intro; refine ⟨fun _ => ?_, hK _ ?_⟩; (fail); clear hK K))
      refine sched_nil ?_
      rintro w8 ⟨y, rfl⟩
      have N8 := Lib.hid (N7.out.below y.below)
      have L8 := Lib.hid (L7.out.below y.below)
      have G8 := Lib.hid (only_below G7.out y.below)
      clear N7 L7 G7 N6 N5 L5 G5 K4 O5 M5
      generalize y.v = W8 at *
      obtain ⟨d0, d1, d2, d3, d4, d5⟩ := L8.out.cells
      have n0 := Near.cell d0
      have n1 := Near.cell d1
      have n2 := Near.cell d2
      have n3 := Near.cell d3
      have n4' := Near.cell d4
      have n5 := Near.cell d5
      have hst : ∀ z : Near W8, Calls Tryd.prog 16 #[.pointer (some ⟨g, 0, none⟩)] z.v fun e w' => e = .returned (.int .i64 6) ∧ z.v = w' := fun z => by rw [← h4.out.1]; exact State_any g t v7 n4 z.v (N8.out.below z.below)
      have hlf : ∀ z : Near W8, Calls Tryd.prog 21 #[.pointer (some ⟨g, 0, none⟩)] z.v fun e w' => e = .returned (.int .i64 7) ∧ z.v = w' := fun z => by rw [← h4.out.2.1]; exact Left_any g t v7 n4 z.v (N8.out.below z.below)
      have how : ∀ z : Near W8, Calls Tryd.prog 20 #[.pointer (some ⟨g, 0, none⟩)] z.v fun e w' => e = .returned (.agg #[.int .i64 a.mru, .int .i64 a.magic, .int .i64 a.mrru, .bool a.short, .string a.disc, .int .i64 a.num]) ∧ Below z.v.heap.size z.v w' := fun z => by have := Own_any g t v7 n4 z.v (N8.out.below z.below); rw [h4.out.2.2.2] at this; exact this
      have HST := Lib.hid hst
      have HLF := Lib.hid hlf
      have HOW := Lib.hid how
      have hee : ∀ w, (binOp .eql 23 (.agg #[.int .i64 a.mru, .int .i64 a.magic, .int .i64 a.mrru, .bool a.short, .string a.disc, .int .i64 a.num]) (.agg #[.int .i64 a.mru, .int .i64 a.magic, .int .i64 a.mrru, .bool a.short, .string a.disc, .int .i64 a.num])).run Tryd.prog w = .ok (.bool true) w := fun w => by
        have := link_eql a a w
        rw [LinkD.eqB_iff] at this
        simpa using this
      clear hst hlf how d0 d1 d2 d3 d4 d5
      go_wp2_with fail
      refine wp_region_near (by kernel_rfl) (by kernel_rfl) ?_
      repeat (go_big_quiet_step ((first | (go_at_call 13; exact near_of_same (num_any _ _)) | (go_at_call 16; exact near_of_same (HST.out _)) | (go_at_call 20; exact near_of (HOW.out _)) | (go_at_call 21; exact near_of_same (HLF.out _)))))
      refine wpQuiet_nil ?_
      intro z
      clear n0 n1 n2 n3 n4' n5 hee
      go_wp2_with fail
      go_ret
      exact ⟨rfl, below_trans' (below_of_only G8.out B2.out hgw) (Nat.le_trans B2.out.size G8.out.size) z.below⟩
    · refine wp_region_sched [(0, false), (1, false), (2, false), (3, false), (4, false), (5, false), (6, false), (7, false), (8, false), (9, false), (10, false), (11, false), (12, false), (13, true), (14, false), (15, false), (16, false), (17, false), (18, false)] (Turned.v (w := W5) (g := g)) (nearC W5) (okay_turned (World.grownBy.refl _ _)) (by kernel_rfl) rfl (by kernel_rfl) (by kernel_rfl) ⟨⟨_, (Below.refl _ _).drew⟩, rfl⟩ ?_
      iterate 13 (refine sched_quiet rfl (fun K hK => ?_); go_simp; first | (refine hK _ ?_; clear hK K) | (apply Exists.intro; refine ⟨fun _ => ?_, hK _ ?_⟩; (fail); clear hK K))
      clear qx q0 q1 q2 hr
      refine sched_eff rfl rfl (fun K hK w6 hw6 => ?_)
      go_simp
      obtain ⟨x, rfl⟩ := hw6
      have N6 := Lib.hid (N5.out.below x.below)
      have hd := Take_took g t v4 n4 ⟨4, i, a.ask, emptyB⟩ A4 a.ask.length c4 x.v N6.out (M5.out.below x.below M5.out.pos) (Reads.of_own (own_below O5.out x.below)) rfl (by have := hsm.out.len; omega) (fun o ho => by have := hsm.out.data o ho; omega) empty_small
      rw [take_stale hsm.out (by omega) hi0 hi1 h4.out.1 (by rw [h4.out.2.2.1]; exact hi2)] at hd
      have HDO := Lib.hid hd
      clear hd
      refine HDO.out.mono ?_
      clear HDO
      rintro e w7 ⟨⟨V7, v7, he, hn, hp⟩⟩
      simp only at he hn hp
      subst he
      obtain ⟨A7, q7, rfl⟩ := packs_nil hp
      have N7 := Lib.hid hn.at_
      have hW57 := grown_row (only_of_below x.below (some g)) hn.grown
      have G7 := Lib.hid (grown_row G5.out hW57)
      have L7 := Lib.hid (show LinkAt w7 w.heap.size a from Blk.grown L5.out hW57 (by simp; omega))
      refine ⟨_, rfl, nearC w7, okay_turned hW57, nearC_self _, hK _ _ ?_⟩
      clear hK K hn hp hW57
      iterate 5 (refine sched_quiet rfl (fun K hK => ?_); go_simp; first | (refine hK _ ?_; clear hK K) | (apply Exists.intro; refine ⟨fun _ => ?_, hK _ ?_⟩; (fail); clear hK K))
      refine sched_nil ?_
      rintro w8 ⟨y, rfl⟩
      have N8 := Lib.hid (N7.out.below y.below)
      have L8 := Lib.hid (L7.out.below y.below)
      have G8 := Lib.hid (only_below G7.out y.below)
      clear N7 L7 G7 N6 N5 L5 G5 K4 O5 M5
      generalize y.v = W8 at *
      obtain ⟨d0, d1, d2, d3, d4, d5⟩ := L8.out.cells
      have n0 := Near.cell d0
      have n1 := Near.cell d1
      have n2 := Near.cell d2
      have n3 := Near.cell d3
      have n4' := Near.cell d4
      have n5 := Near.cell d5
      have hst : ∀ z : Near W8, Calls Tryd.prog 16 #[.pointer (some ⟨g, 0, none⟩)] z.v fun e w' => e = .returned (.int .i64 6) ∧ z.v = w' := fun z => by rw [← h4.out.1]; exact State_any g t v7 n4 z.v (N8.out.below z.below)
      have hlf : ∀ z : Near W8, Calls Tryd.prog 21 #[.pointer (some ⟨g, 0, none⟩)] z.v fun e w' => e = .returned (.int .i64 7) ∧ z.v = w' := fun z => by rw [← h4.out.2.1]; exact Left_any g t v7 n4 z.v (N8.out.below z.below)
      have how : ∀ z : Near W8, Calls Tryd.prog 20 #[.pointer (some ⟨g, 0, none⟩)] z.v fun e w' => e = .returned (.agg #[.int .i64 a.mru, .int .i64 a.magic, .int .i64 a.mrru, .bool a.short, .string a.disc, .int .i64 a.num]) ∧ Below z.v.heap.size z.v w' := fun z => by have := Own_any g t v7 n4 z.v (N8.out.below z.below); rw [h4.out.2.2.2] at this; exact this
      have HST := Lib.hid hst
      have HLF := Lib.hid hlf
      have HOW := Lib.hid how
      have hee : ∀ w, (binOp .eql 23 (.agg #[.int .i64 a.mru, .int .i64 a.magic, .int .i64 a.mrru, .bool a.short, .string a.disc, .int .i64 a.num]) (.agg #[.int .i64 a.mru, .int .i64 a.magic, .int .i64 a.mrru, .bool a.short, .string a.disc, .int .i64 a.num])).run Tryd.prog w = .ok (.bool true) w := fun w => by
        have := link_eql a a w
        rw [LinkD.eqB_iff] at this
        simpa using this
      clear hst hlf how d0 d1 d2 d3 d4 d5
      go_wp2_with fail
      refine wp_region_near (by kernel_rfl) (by kernel_rfl) ?_
      repeat (go_big_quiet_step ((first | (go_at_call 13; exact near_of_same (num_any _ _)) | (go_at_call 16; exact near_of_same (HST.out _)) | (go_at_call 20; exact near_of (HOW.out _)) | (go_at_call 21; exact near_of_same (HLF.out _)))))
      refine wpQuiet_nil ?_
      intro z
      clear n0 n1 n2 n3 n4' n5 hee
      go_wp2_with fail
      go_ret
      exact ⟨rfl, below_trans' (below_of_only G8.out B2.out hgw) (Nat.le_trans B2.out.size G8.out.size) z.below⟩


set_option maxRecDepth 100000 in
theorem negStale_lifted (os : Os) (started : os.Started) (H : Type) (enc : TypeId × Value → H) :
    ReturnsInHanded {} Tryd.checked os 8 .any (fun w args => (Rows.negStaleSpec.pre enc Tryd.prog Tryd.f8 Rows.negStaleRow.domain false w args ∧ laidMetH Tryd.prog Rows.negStaleRow.laid w) ∧ sizedMet enc Tryd.prog Tryd.f8 (OpenSpec.ofChange Rows.negStaleSpec) false w args)
      (Rows.negStaleSpec.post enc Tryd.prog Tryd.f8 false true false false) := by
  refine returns_shaped_and (C := Tryd.checked) (X := fun w _ => laidMetH Tryd.prog Rows.negStaleRow.laid w) (fun _ _ _ hh h => h.of_heap hh) own_knob started (by kernel_rfl) Tryd.func8
    (ChangeSpec.witness_shaped (enc := enc) (C := Tryd.checked) (os := os) (X := fun w _ => laidMetH Tryd.prog Rows.negStaleRow.laid w) false (World.laidAll Tryd.prog os Rows.negStaleRow.laid) #[.agg #[.int .i64 0, .int .i64 0, .int .i64 0, .bool false, .string ⟨#[]⟩, .int .i64 0], .int .i64 0, .int .i64 0] 8 (World.laidAll_os _ _ _)
      (World.shaped_of_ZipB (by kernel_rfl) (by kernel_rfl)) (by kernel_rfl) (by kernel_rfl) (by kernel_rfl)
      (by rw [MakeChecks.laidMetH_plain _ _ _ (by kernel_rfl)]; exact laidMet_laidAll _ (by kernel_rfl) (by kernel_rfl))) ?_
  intro W base args ds gs before hval0 hW hcnd hsz0 hL hsh _
  have hval : ∀ (j : Nat) t v, Tryd.f8.params[j]? = some t → args[j]? = some v → Value.okWide Tryd.prog W .any base t v := hval0
  have hmx := has_max hsh
  have hW' := hW
  obtain ⟨p, q, hA0, hV, rfl, hfz, hnd⟩ := hW
  have hA : DataW.TrodAll enc Tryd.prog W 0 (fun _ => true) true Tryd.f8.params.toList args.toList ds p := hA0
  have hsz : (DataW.weightsEach Tryd.prog (Tryd.f8.params.toList ++ Rows.negStaleSpec.plain.varTypes Tryd.prog) (ds ++ gs)).all (· ≤ reachBytes) = true := hsz0
  rw [Tryd.params8] at hA hval hsz
  obtain ⟨v0, vs0, d0, ds0, p0, q0, hargs, rfl, rfl, h0, r0⟩ := trodAll_cons hA
  obtain ⟨v1, vs1, d1, ds1, p1, q1, rfl, rfl, rfl, h1, r1⟩ := trodAll_cons r0
  obtain ⟨v2, vs2, d2, ds2, p2, q2, rfl, rfl, rfl, h2, r2⟩ := trodAll_cons r1
  obtain ⟨rfl, rfl, rfl⟩ := trodAll_nil r2
  obtain rfl : args = #[v0, v1, v2] := by cases args; simp_all
  obtain ⟨rfl, rfl⟩ := trodVars_none hV
  have k0 := h0
  obtain ⟨a, rfl⟩ := open_link (hval 0 23 v0 rfl rfl) h0
  have k1 := h1
  obtain ⟨id, rfl, rfl, rfl, w1⟩ := open_int Tryd.underlying3 (hval 1 3 v1 rfl rfl) h1
  have y1 : -9223372036854775808 ≤ id ∧ id ≤ 9223372036854775807 := by simpa [Lit.wf, IntKind.min, IntKind.max, IntKind.signed, IntKind.bits] using w1
  have k2 := h2
  obtain ⟨code, rfl, rfl, rfl, w2⟩ := open_int Tryd.underlying3 (hval 2 3 v2 rfl rfl) h2
  have y2 : -9223372036854775808 ≤ code ∧ code ≤ 9223372036854775807 := by simpa [Lit.wf, IntKind.min, IntKind.max, IntKind.signed, IntKind.bits] using w2
  clear hA0 hval0
  refine (walk_negStale a id code W hmx).mono fun e W' ⟨he, bel⟩ => ?_
  subst he
  exact ⟨_, rfl, _, _, _, [], _, [], hW', trodAll_cons_mk (shut_bool Tryd.underlying4 _) trodAll_mk0, (trodAll_cons_mk (Below.trod laid_out (by kernel_rfl) (of_decide_eq_true (by kernel_rfl)) k0 bel (trod_below k0)) (trodAll_cons_mk (Below.trod laid_out (by kernel_rfl) (of_decide_eq_true (by kernel_rfl)) k1 bel (trod_below k1)) (trodAll_cons_mk (Below.trod laid_out (by kernel_rfl) (of_decide_eq_true (by kernel_rfl)) k2 bel (trod_below k2)) trodAll_mk0))), rfl, bel.frame _, fun h => by cases h⟩

theorem negStale_holds : Rows.NegStaleSaid :=
  OpenClaim.holds_of_wide 8 Tryd.f8 rfl rfl rfl rfl rfl rfl rfl ⟨rfl, rfl, rfl, rfl, rfl⟩ rfl rfl rfl rfl rfl (by kernel_rfl) Tryd.func8 (by kernel_rfl)
    (of_decide_eq_true (by kernel_rfl)) (by unfold Func.isWrapper; first | (rw [if_pos (by decide +kernel)]; kernel_rfl) | (rw [if_neg (by decide +kernel)]; exact ⟨rfl, rfl⟩))
    (fun os started H enc _ => negStale_lifted os started H enc)
theorem negStale_card : Rows.NegStaleCardSaid :=
  Claim7.holds_tied_plain_at .later [] [.data, .pinned] true (true, "d4a511c915e6a17b6bf218a66d26c660ca8097baf3c083678f03dd7ace4f4ba1") false negStale_holds (fun _ h => by cases h) (by kernel_rfl) (fun _ h => by cases h) negStale_row_tie rfl ⟨rfl, rfl⟩ (by kernel_rfl) rfl
    (fun f fn hf hfn => by
      obtain rfl : f = 8 := Option.some.inj ((show Tryd.prog.funcNamed "withy/withylaw15.NegStale" = some 8 by kernel_rfl).symm.trans hf) |>.symm
      obtain rfl : fn = Tryd.f8 := (Option.some.inj (Tryd.func8.symm.trans hfn)).symm
      exact ⟨by kernel_rfl, fun j t ht => by
        rw [Tryd.params8] at ht
        have hm : t ∈ [23, 3, 3] := by simpa using Array.mem_of_getElem? ht
        have hall : ([23, 3, 3].all fun u => !Tryd.prog.wantsStandIn u) = true := by kernel_rfl
        exact (show Tryd.prog.wantsStandIn t = false by simpa using List.all_eq_true.1 hall t hm)⟩)
    (by kernel_rfl)
#print axioms negStale_card
end Go.Proofs.YthlfghheciamcaaDoor
