/-
  NegForms: which links, tries and events there are; packets ahead of a lower layer: the law answers true at every link and all numbers.
  Conditions: none.
-/
import Derived.Test.YthlfghheciamcaaDoorB1
namespace Go.Proofs.YthlfghheciamcaaDoor
open Go.RowKit Go.Joins Go.ChangeShapes Go.WideShapes Go.Deep Go.ChangeAt
open Go.ChangeMaps (open_string shut_string)
set_option linter.unusedVariables false

def fmP : PackD := ⟨1, 1, [], emptyB⟩
theorem fm_put : (controlPut fmP).2 = 0 := by kernel_rfl
theorem fm_take (a : LinkD) (k : Int) : takeD (newD a k) fmP = (newD a k, [], 1501) := by
  unfold takeD
  rw [if_neg (by rw [fm_put]; simp), if_pos (.inl rfl)]
/-- what is wanted of an event at the start -/
def fmWant (ev : Int) : Int := if 0 ≤ ev ∧ ev ≤ 4 then (if ev ≠ 1 ∧ ev ≠ 4 then 0 else 1501) else 1500
theorem fm_do (a : LinkD) (k ev : Int) : (userDo (newD a k) ev).2.2 = fmWant ev := by
  by_cases h : 0 ≤ ev ∧ ev ≤ 4
  · have hc : ev = 0 ∨ ev = 1 ∨ ev = 2 ∨ ev = 3 ∨ ev = 4 := by omega
    rcases hc with rfl | rfl | rfl | rfl | rfl
    · rw [userDo_of (by decide) (by decide), evFix_other (by decide), doD_of noRep (show stepD (newD a k).state 0 = _ from st_0_0)]; rfl
    · rw [userDo_of (by decide) (by decide), evFix_other (by decide), doD_never noRep (show stepD (newD a k).state 1 = _ from st_0_1) (by decide)]; rfl
    · rw [userDo_of (by decide) (by decide), evFix_other (by decide), doD_of noRep (show stepD (newD a k).state 2 = _ from st_0_2)]; rfl
    · rw [userDo_of (by decide) (by decide), evFix_other (by decide), doD_of noRep (show stepD (newD a k).state 3 = _ from st_0_3)]; rfl
    · rw [userDo_of (by decide) (by decide), show evFix (newD a k) 4 = 5 from rfl, doD_never noRep (show stepD (newD a k).state 5 = _ from st_0_5) (by decide)]; rfl
  · unfold userDo fmWant
    rw [if_neg h, if_neg h]

set_option maxRecDepth 100000 in
set_option maxHeartbeats 4000000 in
theorem walk_negForms (a : LinkD) (tries ev : Int) (w : World) (hm : HasMax w) :
    Calls Tryd.prog 6 #[.agg #[.int .i64 a.mru, .int .i64 a.magic, .int .i64 a.mrru, .bool a.short, .string a.disc, .int .i64 a.num], .int .i64 tries, .int .i64 ev] w fun e w' => e = .returned (.bool true) ∧ Below w.heap.size w w' := by
  have HM := Lib.hid hm
  clear hm
  go_enter Tryd.func6, Tryd.ntmps6
  go_wp2_with fail
  refine (awake_any _ (HM.out.below ((Below.refl _ _).alloc (Nat.le_refl _) _) HM.out.pos)).mono ?_
  rintro e w1 ⟨rfl, hb1⟩
  have hl1 := LinkAt.below (LinkAt.new w a) hb1
  have B1 := Lib.hid (below_trans' ((Below.refl w.heap.size w).alloc (Nat.le_refl _) (.cells a.cells 23)) (by simp) hb1)
  have M1 := Lib.hid (HM.out.below B1.out HM.out.pos)
  obtain ⟨c0, c1, c2, c3, c4, c5⟩ := hl1.cells
  have L1 := Lib.hid hl1
  clear hb1 hl1
  rcases hf : newFits a tries with _ | _
  · go_wp2_with fail
    refine (New_no a tries _ hf).mono ?_
    rintro e w2 ⟨rfl, hb2⟩
    obtain ⟨d0, d1, d2, d3, d4, d5⟩ := (L1.out.below hb2).cells
    have B2 := Lib.hid (below_trans' B1.out B1.out.size hb2)
    have hc : a.may = false ∨ (a.may = true ∧ tries < 1) ∨ (a.may = true ∧ ¬ tries < 1 ∧ 10 < tries) := by
      cases hm : a.may with
      | false => exact .inl rfl
      | true =>
        refine .inr ?_
        by_cases x : tries < 1
        · exact .inl ⟨rfl, x⟩
        · refine .inr ⟨rfl, x, ?_⟩
          by_cases y : 10 < tries
          · exact y
          · have : newFits a tries = true := by simp [newFits, hm]; omega
            rw [this] at hf
            cases hf
    clear hb2 c0 c1 c2 c3 c4 c5 hf
    rcases hc with hm | ⟨hm, h1⟩ | ⟨hm, h1, h2⟩
    · go_wp2_with (first | (go_at_call 14; refine (may_ref a _).mono ?_; rw [hm]; rintro e w3 ⟨rfl, hb3⟩; have B3 := Lib.hid (below_trans' B2.out B2.out.size hb3); clear hb3) | (go_at_call 13; refine (num_any _ _).mono ?_; rintro e w' ⟨rfl, rfl⟩))
      go_ret
      exact ⟨rfl, B3.out⟩
    · have e1 : decide (1 ≤ tries) = false := by simp; omega
      clear h1
      go_wp2_with (first | (go_at_call 14; refine (may_ref a _).mono ?_; rw [hm]; rintro e w3 ⟨rfl, hb3⟩; have B3 := Lib.hid (below_trans' B2.out B2.out.size hb3); clear hb3) | (go_at_call 13; refine (num_any _ _).mono ?_; rintro e w' ⟨rfl, rfl⟩))
      go_ret
      exact ⟨rfl, B3.out⟩
    · have e1 : decide (1 ≤ tries) = true := by simp; omega
      have e2 : decide (tries ≤ 10) = false := by simp; omega
      clear h1 h2
      go_wp2_with (first | (go_at_call 14; refine (may_ref a _).mono ?_; rw [hm]; rintro e w3 ⟨rfl, hb3⟩; have B3 := Lib.hid (below_trans' B2.out B2.out.size hb3); clear hb3) | (go_at_call 13; refine (num_any _ _).mono ?_; rintro e w' ⟨rfl, rfl⟩))
      go_ret
      exact ⟨rfl, B3.out⟩
  · go_wp2_with fail
    refine (New_yes a tries _ hf).mono ?_
    rintro e w2 ⟨g, t, v, rfl, hn2, hb2, hg2⟩
    obtain ⟨d0, d1, d2, d3, d4, d5⟩ := (L1.out.below hb2).cells
    have B2 := Lib.hid (below_trans' B1.out B1.out.size hb2)
    have N2 := Lib.hid hn2
    have hgw : w.heap.size ≤ g := Nat.le_trans B1.out.size hg2
    have hc : a.may = true ∧ 1 ≤ tries ∧ tries ≤ 10 := by simpa [newFits] using hf
    obtain ⟨hm, h1, h10⟩ := hc
    have e1 : decide (1 ≤ tries) = true := by simpa using h1
    have e2 : decide (tries ≤ 10) = true := by simpa using h10
    have M2 := Lib.hid (M1.out.below hb2 M1.out.pos)
    clear hb2 hn2 c0 c1 c2 c3 c4 c5 hf h1 h10
    go_wp2_with (first | (go_at_call 14; refine (may_ref a _).mono ?_; rw [hm]; rintro e w3 ⟨rfl, hb3⟩; have B3 := Lib.hid (below_trans' B2.out B2.out.size hb3); have N3 := Lib.hid (N2.out.below hb3); have M3 := Lib.hid (M2.out.below hb3 M2.out.pos); clear hb3) | (go_at_call 13; refine (num_any _ _).mono ?_; rintro e w' ⟨rfl, rfl⟩))
    clear d0 d1 d2 d3 d4 d5 e1 e2 hm
    have hd := Take_took g t v (newD a tries) fmP none 0 0 _ N3.out M3.out Reads.none_ rfl (by omega) (fun _ h => by simp [fmP] at h) (by decide)
    rw [fm_take] at hd
    have HDO := Lib.hid hd
    clear hd
    refine HDO.out.mono ?_
    clear HDO
    rintro e w4 ⟨⟨V4, v4, he, hn, hp⟩⟩
    simp only at he hn hp
    subst he
    have N4 := Lib.hid hn.at_
    have M4 := Lib.hid (M3.out.neg N3.out hn)
    have G4 := Lib.hid hn.grown
    obtain ⟨A4, k4, rfl⟩ := packs_nil hp
    clear hn hp
    have HW := Lib.hid (fm_do a tries ev)
    by_cases hev : 0 ≤ ev ∧ ev ≤ 4
    · have hcs : ev = 0 ∨ ev = 1 ∨ ev = 2 ∨ ev = 3 ∨ ev = 4 := by omega
      clear hev
      rcases hcs with rfl | rfl | rfl | rfl | rfl
      all_goals
        go_wp2_with fail
        refine (Do_any g t v4 (newD a tries) _ _ N4.out M4.out).mono ?_
        rw [HW.out]
        rintro e w5 ⟨V5, v5, rfl, hn, hp⟩
        have G5 := Lib.hid (grown_row G4.out hn.grown)
        clear hn hp
        simp only [fmWant]
        go_wp2_with (go_at_call 13; refine (num_any _ _).mono ?_; rintro e w' ⟨rfl, rfl⟩)
        go_ret
        exact ⟨rfl, below_of_only G5.out B3.out hgw⟩
    · have e0 : (ev == 0) = false := beq_eq_false_iff_ne.2 (by omega)
      have e1 : (ev == 1) = false := beq_eq_false_iff_ne.2 (by omega)
      have e2 : (ev == 2) = false := beq_eq_false_iff_ne.2 (by omega)
      have e3 : (ev == 3) = false := beq_eq_false_iff_ne.2 (by omega)
      have e4 : (ev == 4) = false := beq_eq_false_iff_ne.2 (by omega)
      have HW2 := Lib.hid (show fmWant ev = 1500 by unfold fmWant; rw [if_neg hev])
      clear hev
      go_wp2_with fail
      refine (Do_any g t v4 (newD a tries) _ _ N4.out M4.out).mono ?_
      rw [HW.out, HW2.out]
      rintro e w5 ⟨V5, v5, rfl, hn, hp⟩
      have G5 := Lib.hid (grown_row G4.out hn.grown)
      clear hn hp
      go_wp2_with (go_at_call 13; refine (num_any _ _).mono ?_; rintro e w' ⟨rfl, rfl⟩)
      go_ret
      exact ⟨rfl, below_of_only G5.out B3.out hgw⟩

set_option maxRecDepth 100000 in
theorem negForms_lifted (os : Os) (started : os.Started) (H : Type) (enc : TypeId × Value → H) :
    ReturnsInHanded {} Tryd.checked os 6 .any (fun w args => (Rows.negFormsSpec.pre enc Tryd.prog Tryd.f6 Rows.negFormsRow.domain false w args ∧ laidMetH Tryd.prog Rows.negFormsRow.laid w) ∧ sizedMet enc Tryd.prog Tryd.f6 (OpenSpec.ofChange Rows.negFormsSpec) false w args)
      (Rows.negFormsSpec.post enc Tryd.prog Tryd.f6 false true false false) := by
  refine returns_shaped_and (C := Tryd.checked) (X := fun w _ => laidMetH Tryd.prog Rows.negFormsRow.laid w) (fun _ _ _ hh h => h.of_heap hh) own_knob started (by kernel_rfl) Tryd.func6
    (ChangeSpec.witness_shaped (enc := enc) (C := Tryd.checked) (os := os) (X := fun w _ => laidMetH Tryd.prog Rows.negFormsRow.laid w) false (World.laidAll Tryd.prog os Rows.negFormsRow.laid) #[.agg #[.int .i64 0, .int .i64 0, .int .i64 0, .bool false, .string ⟨#[]⟩, .int .i64 0], .int .i64 0, .int .i64 0] 8 (World.laidAll_os _ _ _)
      (World.shaped_of_ZipB (by kernel_rfl) (by kernel_rfl)) (by kernel_rfl) (by kernel_rfl) (by kernel_rfl)
      (by rw [MakeChecks.laidMetH_plain _ _ _ (by kernel_rfl)]; exact laidMet_laidAll _ (by kernel_rfl) (by kernel_rfl))) ?_
  intro W base args ds gs before hval0 hW hcnd hsz0 hL hsh _
  have hval : ∀ (j : Nat) t v, Tryd.f6.params[j]? = some t → args[j]? = some v → Value.okWide Tryd.prog W .any base t v := hval0
  have hmx := has_max hsh
  have hW' := hW
  obtain ⟨p, q, hA0, hV, rfl, hfz, hnd⟩ := hW
  have hA : DataW.TrodAll enc Tryd.prog W 0 (fun _ => true) true Tryd.f6.params.toList args.toList ds p := hA0
  have hsz : (DataW.weightsEach Tryd.prog (Tryd.f6.params.toList ++ Rows.negFormsSpec.plain.varTypes Tryd.prog) (ds ++ gs)).all (· ≤ reachBytes) = true := hsz0
  rw [Tryd.params6] at hA hval hsz
  obtain ⟨v0, vs0, d0, ds0, p0, q0, hargs, rfl, rfl, h0, r0⟩ := trodAll_cons hA
  obtain ⟨v1, vs1, d1, ds1, p1, q1, rfl, rfl, rfl, h1, r1⟩ := trodAll_cons r0
  obtain ⟨v2, vs2, d2, ds2, p2, q2, rfl, rfl, rfl, h2, r2⟩ := trodAll_cons r1
  obtain ⟨rfl, rfl, rfl⟩ := trodAll_nil r2
  obtain rfl : args = #[v0, v1, v2] := by cases args; simp_all
  obtain ⟨rfl, rfl⟩ := trodVars_none hV
  have k0 := h0
  obtain ⟨a, rfl⟩ := open_link (hval 0 23 v0 rfl rfl) h0
  have k1 := h1
  obtain ⟨tries, rfl, rfl, rfl, w1⟩ := open_int Tryd.underlying3 (hval 1 3 v1 rfl rfl) h1
  have y1 : -9223372036854775808 ≤ tries ∧ tries ≤ 9223372036854775807 := by simpa [Lit.wf, IntKind.min, IntKind.max, IntKind.signed, IntKind.bits] using w1
  have k2 := h2
  obtain ⟨ev, rfl, rfl, rfl, w2⟩ := open_int Tryd.underlying3 (hval 2 3 v2 rfl rfl) h2
  have y2 : -9223372036854775808 ≤ ev ∧ ev ≤ 9223372036854775807 := by simpa [Lit.wf, IntKind.min, IntKind.max, IntKind.signed, IntKind.bits] using w2
  clear hA0 hval0
  refine (walk_negForms a tries ev W hmx).mono fun e W' ⟨he, bel⟩ => ?_
  subst he
  exact ⟨_, rfl, _, _, _, [], _, [], hW', trodAll_cons_mk (shut_bool Tryd.underlying4 _) trodAll_mk0, (trodAll_cons_mk (Below.trod laid_out (by kernel_rfl) (of_decide_eq_true (by kernel_rfl)) k0 bel (trod_below k0)) (trodAll_cons_mk (Below.trod laid_out (by kernel_rfl) (of_decide_eq_true (by kernel_rfl)) k1 bel (trod_below k1)) (trodAll_cons_mk (Below.trod laid_out (by kernel_rfl) (of_decide_eq_true (by kernel_rfl)) k2 bel (trod_below k2)) trodAll_mk0))), rfl, bel.frame _, fun h => by cases h⟩

theorem negForms_holds : Rows.NegFormsSaid :=
  OpenClaim.holds_of_wide 6 Tryd.f6 rfl rfl rfl rfl rfl rfl rfl ⟨rfl, rfl, rfl, rfl, rfl⟩ rfl rfl rfl rfl rfl (by kernel_rfl) Tryd.func6 (by kernel_rfl)
    (of_decide_eq_true (by kernel_rfl)) (by unfold Func.isWrapper; first | (rw [if_pos (by decide +kernel)]; kernel_rfl) | (rw [if_neg (by decide +kernel)]; exact ⟨rfl, rfl⟩))
    (fun os started H enc _ => negForms_lifted os started H enc)
theorem negForms_card : Rows.NegFormsCardSaid :=
  Claim7.holds_tied_plain_at .later [] [.data, .pinned] true (true, "d4a511c915e6a17b6bf218a66d26c660ca8097baf3c083678f03dd7ace4f4ba1") false negForms_holds (fun _ h => by cases h) (by kernel_rfl) (fun _ h => by cases h) negForms_row_tie rfl ⟨rfl, rfl⟩ (by kernel_rfl) rfl
    (fun f fn hf hfn => by
      obtain rfl : f = 6 := Option.some.inj ((show Tryd.prog.funcNamed "withy/withylaw15.NegForms" = some 6 by kernel_rfl).symm.trans hf) |>.symm
      obtain rfl : fn = Tryd.f6 := (Option.some.inj (Tryd.func6.symm.trans hfn)).symm
      exact ⟨by kernel_rfl, fun j t ht => by
        rw [Tryd.params6] at ht
        have hm : t ∈ [23, 3, 3] := by simpa using Array.mem_of_getElem? ht
        have hall : ([23, 3, 3].all fun u => !Tryd.prog.wantsStandIn u) = true := by kernel_rfl
        exact (show Tryd.prog.wantsStandIn t = false by simpa using List.all_eq_true.1 hall t hm)⟩)
    (by kernel_rfl)
#print axioms negForms_card
end Go.Proofs.YthlfghheciamcaaDoor
