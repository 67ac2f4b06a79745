/-
  NegLearns: a side that was refused options asks without them, and is acked then: the law answers true at every link and number.
  Conditions: none.
-/
import Derived.Test.YthlfghheciamcaaDoorY2
namespace Go.Proofs.YthlfghheciamcaaDoor
open Go.RowKit Go.Joins Go.ChangeShapes Go.WideShapes Go.Deep Go.ChangeAt
open Go.ChangeMaps (open_string shut_string)
set_option linter.unusedVariables false

theorem packs_ne {w : World} {base b m c g : Nat} {nv : Value} {ps : List PackD} {T : TypeId} {cs : Array Value} (h : PacksAt w base (.slice (some ⟨b, 0, none⟩) m c) nv ps) (hk : Blk w g T cs) (ht : T ≠ 41) : ¬ b = g := by
  obtain ⟨l, _, hp⟩ := h
  intro e
  exact own_blk_ne hp.row hk (fun e => ht e.symm) (by rw [e]; rfl)
theorem learns_k (x : Int) (L : Nat) (h : 0 < L) (h6 : L ≤ 6) : ∃ k : Nat, wrap64 ((IntKind.u64.wrap x).tmod (L : Int)) = (k : Int) ∧ k < L := by
  have h0 : 0 ≤ IntKind.u64.wrap x := wrap_u64_nonneg x
  obtain ⟨y, hy⟩ := Int.eq_ofNat_of_zero_le h0
  rw [hy]
  have e : ((y : Int).tmod (L : Int)) = ((y % L : Nat) : Int) := by rw [Int.tmod_eq_emod_of_nonneg (by omega)]; rfl
  have hlt := Nat.mod_lt y h
  rw [e]
  exact ⟨y % L, by unfold wrap64; omega, hlt⟩

set_option maxRecDepth 100000 in
set_option maxHeartbeats 4000000 in
theorem walk_negLearns (a : LinkD) (which : Int) (w : World) (hm : HasMax w) :
    Calls Tryd.prog 7 #[.agg #[.int .i64 a.mru, .int .i64 a.magic, .int .i64 a.mrru, .bool a.short, .string a.disc, .int .i64 a.num], .int .i64 which] w fun e w' => e = .returned (.bool true) ∧ Below w.heap.size w w' := by
  have HM := Lib.hid hm
  clear hm
  go_enter Tryd.func7, Tryd.ntmps7
  go_wp2_with fail
  refine (awake_any _ (HM.out.below ((Below.refl _ _).alloc (Nat.le_refl _) _) HM.out.pos)).mono ?_
  rintro e w1 ⟨rfl, hb1⟩
  have hl1 := LinkAt.below (LinkAt.new w a) hb1
  have B1 := Lib.hid (below_trans' ((Below.refl w.heap.size w).alloc (Nat.le_refl _) (.cells a.cells 23)) (by simp) hb1)
  have M1 := Lib.hid (HM.out.below B1.out HM.out.pos)
  obtain ⟨c0, c1, c2, c3, c4, c5⟩ := hl1.cells
  have L1 := Lib.hid hl1
  clear hb1 hl1
  go_wp2_with fail
  rcases hma : a.may with _ | _
  · refine (New_no a 8 _ (by simp [newFits, hma])).mono ?_
    rintro e w2 ⟨rfl, hb2⟩
    obtain ⟨d0, d1, d2, d3, d4, d5⟩ := (L1.out.below hb2).cells
    have B2 := Lib.hid (below_trans' B1.out B1.out.size hb2)
    clear hb2 c0 c1 c2 c3 c4 c5
    go_wp2_with (first | (go_at_call 14; refine (may_ref a _).mono ?_; rw [hma]; rintro e w3 ⟨rfl, hb3⟩; have B3 := Lib.hid (below_trans' B2.out B2.out.size hb3); clear hb3) | (go_at_call 13; refine (num_any _ _).mono ?_; rintro e w' ⟨rfl, rfl⟩))
    go_ret
    exact ⟨rfl, B3.out⟩
  · refine (New_yes a 8 _ (by simp [newFits, hma])).mono ?_
    rintro e w2 ⟨g, t, v, rfl, hn2, hb2, hg2⟩
    have L2 := Lib.hid (L1.out.below hb2)
    have B2 := Lib.hid (below_trans' B1.out B1.out.size hb2)
    have N2 := Lib.hid hn2
    have hgw : w.heap.size ≤ g := Nat.le_trans B1.out.size hg2
    have hgl : w.heap.size < w1.heap.size := L1.out.lt
    have hgx : g ≠ w.heap.size := by omega
    have M2 := Lib.hid (M1.out.below hb2 M1.out.pos)
    clear hb2 hn2 c0 c1 c2 c3 c4 c5
    go_wp2_with (go_at_call 13; refine (num_any _ _).mono ?_; rintro e w' ⟨rfl, rfl⟩)
    have hd := Do_took g t v (newD a 8) 2 _ N2.out M2.out
    rw [do_open0 rfl] at hd
    have HDO := Lib.hid hd
    clear hd
    refine HDO.out.mono ?_
    clear HDO
    rintro e w3 ⟨⟨V3, v3, he, hn, hp⟩⟩
    simp only at he hn hp
    subst he
    have N3 := Lib.hid hn.at_
    have M3 := Lib.hid (M2.out.neg N2.out hn)
    have G3 := Lib.hid hn.grown
    clear hn hp
    go_wp2_with fail
    have hd := Do_took g t v3 _ 0 _ N3.out M3.out
    rw [do_up1 rfl] at hd
    have HDO := Lib.hid hd
    clear hd
    refine HDO.out.mono ?_
    clear HDO
    rintro e w4 ⟨⟨V4, v4, he, hn, hp⟩⟩
    simp only at he hn hp
    subst he
    have N4 := Lib.hid hn.at_
    have M4 := Lib.hid (M3.out.neg N3.out hn)
    have G4 := Lib.hid (grown_row G3.out hn.grown)
    obtain ⟨b4, q4, _, rfl, -⟩ := packs_head hp
    obtain ⟨x0, x1', x3, u4, x2, ho4⟩ := packs_cells hp
    have hne4 := packs_ne hp hn.at_.blk (by decide)
    have x1 : w4.cell? ⟨b4, 1, none⟩ = some (.int .i64 1) := x1'
    have ho4' : w4.ownsRow w3.heap.size 79 2 u4 a.ask.length (optCells a.ask) := ho4
    obtain ⟨A4, c4, rfl, hc4, _, _⟩ := own_shape ho4'
    have O4 := Lib.hid ho4'
    have hb4l := World.block_lt_of_cell? w4 _ x1
    clear hn hp x0 x1' x3 ho4 ho4'
    have h4 := Lib.hid (show (scr { ({ (newD a 8) with state := 1 } : NegD) with state := 6, left := (newD a 8).tries }).state = 6 ∧ (scr { ({ (newD a 8) with state := 1 } : NegD) with state := 6, left := (newD a 8).tries }).left = 7 ∧ (scr { ({ (newD a 8) with state := 1 } : NegD) with state := 6, left := (newD a 8).tries }).asked = 1 ∧ (scr { ({ (newD a 8) with state := 1 } : NegD) with state := 6, left := (newD a 8).tries }).own = a ∧ (scr { ({ (newD a 8) with state := 1 } : NegD) with state := 6, left := (newD a 8).tries }).id = 1 from ⟨rfl, rfl, rfl, rfl, rfl⟩)
    generalize scr { ({ (newD a 8) with state := 1 } : NegD) with state := 6, left := (newD a 8).tries } = n4 at N4 h4
    have hsm := ask_small6 hma
    have hL6 := hsm.len
    have HSM := Lib.hid hsm
    clear hsm
    by_cases hL : a.ask.length = 0
    · have HL := Lib.hid hL
      rw [hL] at x2
      clear hL
      go_wp2_with fail
      go_ret
      exact ⟨rfl, below_of_only G4.out B2.out hgw⟩
    · obtain ⟨k, hk, hkl⟩ := learns_k which a.ask.length (by omega) hL6
      have HK := Lib.hid hk
      have hL1 : ((a.ask.length : Int) == 0) = false := beq_eq_false_iff_ne.2 (by omega)
      clear hk
      go_wp2_with fail
      rw [HK.out]
      obtain ⟨ad, hA, -⟩ := (Reads.of_own O4.out).2 (by omega)
      subst hA
      have hgx2 : ¬ w.heap.size = g := by omega
      have qx1 := Turned.cell (g := g) x1 hne4
      have qx := Turned.cell (g := g) x2 hne4
      have hkL : k + 1 ≤ c4 := by omega
      have hk0 : (0 : Int) ≤ (k : Int) := by omega
      have hk1 : (k : Int) ≤ (k : Int) + 1 := by omega
      have hk2 : (k : Int) + 1 ≤ (c4 : Int) := by omega
      have hk3 : (0 : Int) ≤ (k : Int) + 1 := by omega
      have hck : ¬ c4 = k := by omega
      have hwr : IntKind.i64.wrap ((k : Int) + 1) = (k : Int) + 1 := by rw [IntKind.wrap_i64]; omega
      have hwn : ((k : Int) + 1).toNat = k + 1 := by omega
      have hRO := Lib.hid (fun (W : World) (B : Nat) (h : Reads W B 2 (some ad) a.ask.length (optCells a.ask)) => reads_one_of h rfl k hkl)
      have hin := List.getElem_mem (h := hkl)
      have hro := Lib.hid (rej_one hma hin)
      have hso := Lib.hid (small_sub HSM.out (ps := [a.ask[k]'hkl]) (fun o ho => by simp at ho; subst ho; exact hin) (by simp))
      generalize a.ask[k]'hkl = o at hRO hro hso hin
      have X2 := Lib.hid x2
      clear hin x1 x2
      refine wp_region_sched [(0, false), (1, false), (2, false), (3, false), (4, false), (5, false), (6, false), (7, false), (8, false), (9, false), (10, false), (11, false), (12, false), (13, false), (14, true), (15, false), (16, false), (17, false), (18, false), (19, false)] (Turned.v (w := w4) (g := g)) (nearC w4) (okay_turned (World.grownBy.refl _ _)) (by kernel_rfl) rfl (by kernel_rfl) (by kernel_rfl) ⟨⟨_, (Below.refl _ _).drew⟩, rfl⟩ ?_
      iterate 14 (refine sched_quiet rfl (fun K hK => ?_); go_simp; first | (refine hK _ ?_; clear hK K) | (apply Exists.intro; refine ⟨fun _ => ?_, hK _ ?_⟩; (fail); clear hK K))
      clear hwr hwn qx qx1
      refine sched_eff rfl rfl (fun K hK w6 hw6 => ?_)
      go_simp
      obtain ⟨x, rfl⟩ := hw6
      have N6 := Lib.hid (N4.out.below x.below)
      have M6 := Lib.hid (M4.out.below x.below M4.out.pos)
      have hr6 := hRO.out x.v x.v.heap.size (Reads.of_own (own_below O4.out x.below))
      have hd := Take_took g t v4 n4 ⟨4, 1, [o], emptyB⟩ (some (ad.add (k * 2))) 1 (c4 - k) x.v N6.out M6.out hr6 rfl (by omega) (fun p hp => by have := hso.out.data p hp; omega) empty_small
      have e6 : takeD n4 ⟨4, 1, [o], emptyB⟩ = (scr { n4 with own := a.clear o.kind, state := 6, left := n4.tries }, [⟨1, 2, (a.clear o.kind).ask, emptyB⟩], 0) := by
        have e := take_rej6 (n := n4) hso.out h4.out.1 (by rw [h4.out.2.2.1]; decide) (by rw [h4.out.2.2.1]; decide)
        rw [h4.out.2.2.1, h4.out.2.2.2.1, hro.out.1] at e
        rw [e]
        simp only [reqOf, h4.out.2.2.2.2]
        rfl
      rw [e6] at hd
      have HDO := Lib.hid hd
      clear hd e6 hr6
      refine HDO.out.mono ?_
      clear HDO
      rintro e w7 ⟨⟨V7, v7, he, hn, hp⟩⟩
      simp only at he hn hp
      subst he
      have h7 := Lib.hid (show (scr { n4 with own := a.clear o.kind, state := 6, left := n4.tries }).state = 6 ∧ (scr { n4 with own := a.clear o.kind, state := 6, left := n4.tries }).asked = 2 ∧ (scr { n4 with own := a.clear o.kind, state := 6, left := n4.tries }).os = (a.clear o.kind).ask from
        ⟨rfl, by show nextI n4.id = 2; rw [h4.out.2.2.2.2]; rfl, rfl⟩)
      generalize scr { n4 with own := a.clear o.kind, state := 6, left := n4.tries } = n7 at hn h7
      have hmay := hro.out.2.1
      have hlen := hro.out.2.2
      have HSM7 := Lib.hid (ask_small6 hmay)
      generalize a.clear o.kind = a' at hn h7 hmay hlen HSM7 hp
      have hl6 := HSM7.out.len
      have N7 := Lib.hid hn.at_
      have M7 := Lib.hid (M6.out.neg N6.out hn)
      have hW57 := grown_row (only_of_below x.below (some g)) hn.grown
      have G7 := Lib.hid (grown_row G4.out hW57)
      obtain ⟨b7, q7, _, rfl, -⟩ := packs_head hp
      have hne7 := packs_ne hp hn.at_.blk (by decide)
      have P7 := Lib.hid hp
      have X7 := Lib.hid (show w7.cell? ⟨b4, 2, none⟩ = some (.slice (some ad) a.ask.length c4) from hW57.cell X2.out (by simpa using hne4))
      refine ⟨_, rfl, nearC w7, okay_turned hW57, nearC_self _, hK _ _ ?_⟩
      clear hK K hn hp hW57 hmay
      iterate 5 (refine sched_quiet rfl (fun K hK => ?_); go_simp; first | (refine hK _ ?_; clear hK K) | (apply Exists.intro; refine ⟨fun _ => ?_, hK _ ?_⟩; (fail); clear hK K))
      refine sched_nil ?_
      rintro w8 ⟨y, rfl⟩
      have N8 := Lib.hid (N7.out.below y.below)
      have M8 := Lib.hid (M7.out.below y.below M7.out.pos)
      have G8 := Lib.hid (only_below G7.out y.below)
      have P8 := Lib.hid (P7.out.below y.below)
      have X8 := Lib.hid (show y.v.cell? ⟨b4, 2, none⟩ = some (.slice (some ad) a.ask.length c4) from (y.below.cell (World.block_lt_of_cell? w7 _ X7.out)).trans X7.out)
      clear N7 M7 G7 P7 X7 N6 M6 N4 M4 G4 X2 N3 M3 G3 N2 M2 O4 hRO
      generalize y.v = W8 at *
      obtain ⟨y0', y1', y3, u7, y2, ho7⟩ := packs_cells P8.out
      have y0 : W8.cell? ⟨b7, 0, none⟩ = some (.int .i64 1) := y0'
      have y1 : W8.cell? ⟨b7, 1, none⟩ = some (.int .i64 2) := y1'
      have ho7' : W8.ownsRow x.v.heap.size 79 2 u7 a'.ask.length (optCells a'.ask) := ho7
      obtain ⟨A7, c7, rfl, hc7, _, _⟩ := own_shape ho7'
      have O8 := Lib.hid ho7'
      have n0 := Near.cell y0
      have n2 := Near.cell y2
      have n3 := Near.cell X8.out
      have hw1 : IntKind.i64.wrap ((a.ask.length : Int) - 1) = (a.ask.length : Int) - 1 := by rw [IntKind.wrap_i64]; omega
      have hcmp : ((a'.ask.length : Int) != (a.ask.length : Int) - 1) = false := by rw [bne_eq_false_iff_eq]; omega
      clear y0' y1' y3 ho7 ho7' y0
      go_wp2_with fail
      refine wp_region_near (by kernel_rfl) (by kernel_rfl) ?_
      repeat (go_big_quiet_step ((go_at_call 13; exact near_of_same (num_any _ _))))
      refine wpQuiet_nil ?_
      intro z
      clear n0 n2 n3 hw1 hcmp
      have N9 := Lib.hid (N8.out.below z.below)
      have M9 := Lib.hid (M8.out.below z.below M8.out.pos)
      have G9 := Lib.hid (only_below G8.out z.below)
      have O9 := Lib.hid (own_below O8.out z.below)
      have Z1 := (z.below.cell (World.block_lt_of_cell? W8 _ y1)).trans y1
      have Z2 := (z.below.cell (World.block_lt_of_cell? W8 _ y2)).trans y2
      clear y1 y2 N8 M8 G8 O8 P8 X8
      go_wp2_with fail
      generalize z.v = W9 at *
      have r1 := Turned.cell (g := g) Z1 hne7
      have r2 := Turned.cell (g := g) Z2 hne7
      clear Z1 Z2
      refine wp_region_sched [(0, false), (1, false), (2, false), (3, false), (4, false), (5, false), (6, false), (7, false), (8, false), (9, false), (10, true), (11, false), (12, false), (13, false), (14, false), (15, false)] (Turned.v (w := W9) (g := g)) (nearC W9) (okay_turned (World.grownBy.refl _ _)) (by kernel_rfl) rfl (by kernel_rfl) (by kernel_rfl) ⟨⟨_, (Below.refl _ _).drew⟩, rfl⟩ ?_
      iterate 10 (refine sched_quiet rfl (fun K hK => ?_); go_simp; first | (refine hK _ ?_; clear hK K) | (apply Exists.intro; refine ⟨fun _ => ?_, hK _ ?_⟩; (fail); clear hK K))
      clear r1 r2
      refine sched_eff rfl rfl (fun K hK w10 hw10 => ?_)
      go_simp
      obtain ⟨s, rfl⟩ := hw10
      have N10 := Lib.hid (N9.out.below s.below)
      have hd := Take_took g t v7 n7 ⟨2, 2, a'.ask, emptyB⟩ A7 a'.ask.length c7 s.v N10.out (M9.out.below s.below M9.out.pos) (Reads.of_own (own_below O9.out s.below)) rfl (by omega) (fun p hp => by have := HSM7.out.data p hp; omega) empty_small
      have e10 : takeD n7 ⟨2, 2, a'.ask, emptyB⟩ = ({ n7 with state := 7, left := n7.tries }, [], 0) := by
        have e := take_ack6 (n := n7) (by rw [h7.out.2.2]; exact HSM7.out) h7.out.1 (by rw [h7.out.2.1]; decide) (by rw [h7.out.2.1]; decide)
        have e2 : (⟨2, n7.asked, n7.os, emptyB⟩ : PackD) = ⟨2, 2, a'.ask, emptyB⟩ := by rw [h7.out.2.1, h7.out.2.2]
        rw [e2] at e
        exact e
      rw [e10] at hd
      have HDO := Lib.hid hd
      clear hd e10
      refine HDO.out.mono ?_
      clear HDO
      rintro e w11 ⟨⟨V11, v11, he, hn, hp⟩⟩
      simp only at he hn hp
      subst he
      obtain ⟨A11, q11, rfl⟩ := packs_nil hp
      have N11 := Lib.hid hn.at_
      have hW := grown_row (only_of_below s.below (some g)) hn.grown
      have G11 := Lib.hid (grown_row G9.out hW)
      refine ⟨_, rfl, nearC w11, okay_turned hW, nearC_self _, hK _ _ ?_⟩
      clear hK K hn hp hW
      iterate 5 (refine sched_quiet rfl (fun K hK => ?_); go_simp; first | (refine hK _ ?_; clear hK K) | (apply Exists.intro; refine ⟨fun _ => ?_, hK _ ?_⟩; (fail); clear hK K))
      refine sched_nil ?_
      rintro w12 ⟨f, rfl⟩
      have hst : Calls Tryd.prog 16 #[.pointer (some ⟨g, 0, none⟩)] f.v fun e w' => e = .returned (.int .i64 7) ∧ f.v = w' := State_any g t v11 _ f.v (N11.out.below f.below)
      have HST := Lib.hid hst
      clear hst
      go_wp2_with (first | (go_at_call 13; refine (num_any _ _).mono ?_; rintro e w' ⟨rfl, rfl⟩) | (go_at_call 16; refine HST.out.mono ?_; rintro e w' ⟨rfl, rfl⟩))
      go_ret
      exact ⟨rfl, below_trans' (below_of_only G11.out B2.out hgw) (Nat.le_trans B2.out.size G11.out.size) f.below⟩

set_option maxRecDepth 100000 in
theorem negLearns_lifted (os : Os) (started : os.Started) (H : Type) (enc : TypeId × Value → H) :
    ReturnsInHanded {} Tryd.checked os 7 .any (fun w args => (Rows.negLearnsSpec.pre enc Tryd.prog Tryd.f7 Rows.negLearnsRow.domain false w args ∧ laidMetH Tryd.prog Rows.negLearnsRow.laid w) ∧ sizedMet enc Tryd.prog Tryd.f7 (OpenSpec.ofChange Rows.negLearnsSpec) false w args)
      (Rows.negLearnsSpec.post enc Tryd.prog Tryd.f7 false true false false) := by
  refine returns_shaped_and (C := Tryd.checked) (X := fun w _ => laidMetH Tryd.prog Rows.negLearnsRow.laid w) (fun _ _ _ hh h => h.of_heap hh) own_knob started (by kernel_rfl) Tryd.func7
    (ChangeSpec.witness_shaped (enc := enc) (C := Tryd.checked) (os := os) (X := fun w _ => laidMetH Tryd.prog Rows.negLearnsRow.laid w) false (World.laidAll Tryd.prog os Rows.negLearnsRow.laid) #[.agg #[.int .i64 0, .int .i64 0, .int .i64 0, .bool false, .string ⟨#[]⟩, .int .i64 0], .int .i64 0] 8 (World.laidAll_os _ _ _)
      (World.shaped_of_ZipB (by kernel_rfl) (by kernel_rfl)) (by kernel_rfl) (by kernel_rfl) (by kernel_rfl)
      (by rw [MakeChecks.laidMetH_plain _ _ _ (by kernel_rfl)]; exact laidMet_laidAll _ (by kernel_rfl) (by kernel_rfl))) ?_
  intro W base args ds gs before hval0 hW hcnd hsz0 hL hsh _
  have hval : ∀ (j : Nat) t v, Tryd.f7.params[j]? = some t → args[j]? = some v → Value.okWide Tryd.prog W .any base t v := hval0
  have hmx := has_max hsh
  have hW' := hW
  obtain ⟨p, q, hA0, hV, rfl, hfz, hnd⟩ := hW
  have hA : DataW.TrodAll enc Tryd.prog W 0 (fun _ => true) true Tryd.f7.params.toList args.toList ds p := hA0
  have hsz : (DataW.weightsEach Tryd.prog (Tryd.f7.params.toList ++ Rows.negLearnsSpec.plain.varTypes Tryd.prog) (ds ++ gs)).all (· ≤ reachBytes) = true := hsz0
  rw [Tryd.params7] at hA hval hsz
  obtain ⟨v0, vs0, d0, ds0, p0, q0, hargs, rfl, rfl, h0, r0⟩ := trodAll_cons hA
  obtain ⟨v1, vs1, d1, ds1, p1, q1, rfl, rfl, rfl, h1, r1⟩ := trodAll_cons r0
  obtain ⟨rfl, rfl, rfl⟩ := trodAll_nil r1
  obtain rfl : args = #[v0, v1] := by cases args; simp_all
  obtain ⟨rfl, rfl⟩ := trodVars_none hV
  have k0 := h0
  obtain ⟨a, rfl⟩ := open_link (hval 0 23 v0 rfl rfl) h0
  have k1 := h1
  obtain ⟨which, rfl, rfl, rfl, w1⟩ := open_int Tryd.underlying3 (hval 1 3 v1 rfl rfl) h1
  have y1 : -9223372036854775808 ≤ which ∧ which ≤ 9223372036854775807 := by simpa [Lit.wf, IntKind.min, IntKind.max, IntKind.signed, IntKind.bits] using w1
  clear hA0 hval0
  refine (walk_negLearns a which W hmx).mono fun e W' ⟨he, bel⟩ => ?_
  subst he
  exact ⟨_, rfl, _, _, _, [], _, [], hW', trodAll_cons_mk (shut_bool Tryd.underlying4 _) trodAll_mk0, (trodAll_cons_mk (Below.trod laid_out (by kernel_rfl) (of_decide_eq_true (by kernel_rfl)) k0 bel (trod_below k0)) (trodAll_cons_mk (Below.trod laid_out (by kernel_rfl) (of_decide_eq_true (by kernel_rfl)) k1 bel (trod_below k1)) trodAll_mk0)), rfl, bel.frame _, fun h => by cases h⟩

theorem negLearns_holds : Rows.NegLearnsSaid :=
  OpenClaim.holds_of_wide 7 Tryd.f7 rfl rfl rfl rfl rfl rfl rfl ⟨rfl, rfl, rfl, rfl, rfl⟩ rfl rfl rfl rfl rfl (by kernel_rfl) Tryd.func7 (by kernel_rfl)
    (of_decide_eq_true (by kernel_rfl)) (by unfold Func.isWrapper; first | (rw [if_pos (by decide +kernel)]; kernel_rfl) | (rw [if_neg (by decide +kernel)]; exact ⟨rfl, rfl⟩))
    (fun os started H enc _ => negLearns_lifted os started H enc)
theorem negLearns_card : Rows.NegLearnsCardSaid :=
  Claim7.holds_tied_plain_at .later [] [.data, .pinned] true (true, "d4a511c915e6a17b6bf218a66d26c660ca8097baf3c083678f03dd7ace4f4ba1") false negLearns_holds (fun _ h => by cases h) (by kernel_rfl) (fun _ h => by cases h) negLearns_row_tie rfl ⟨rfl, rfl⟩ (by kernel_rfl) rfl
    (fun f fn hf hfn => by
      obtain rfl : f = 7 := Option.some.inj ((show Tryd.prog.funcNamed "withy/withylaw15.NegLearns" = some 7 by kernel_rfl).symm.trans hf) |>.symm
      obtain rfl : fn = Tryd.f7 := (Option.some.inj (Tryd.func7.symm.trans hfn)).symm
      exact ⟨by kernel_rfl, fun j t ht => by
        rw [Tryd.params7] at ht
        have hm : t ∈ [23, 3] := by simpa using Array.mem_of_getElem? ht
        have hall : ([23, 3].all fun u => !Tryd.prog.wantsStandIn u) = true := by kernel_rfl
        exact (show Tryd.prog.wantsStandIn t = false by simpa using List.all_eq_true.1 hall t hm)⟩)
    (by kernel_rfl)
#print axioms negLearns_card
end Go.Proofs.YthlfghheciamcaaDoor
