/-
  NegQuits: a side that nobody answers asks as often as it may, then stops: the law answers true at every link and number.
  Conditions: none.
-/
import Derived.Test.YthlfghheciamcaaDoorY1
namespace Go.Proofs.YthlfghheciamcaaDoor
open Go.RowKit Go.Joins Go.ChangeShapes Go.WideShapes Go.Deep Go.ChangeAt
open Go.ChangeMaps (open_string shut_string)
set_option linter.unusedVariables false

theorem quits_k (tries : Int) : ∃ k, wrap64 (1 + wrap64 ((IntKind.u64.wrap tries).tmod 10)) = k ∧ 1 ≤ k ∧ k ≤ 10 := by
  have h0 : 0 ≤ IntKind.u64.wrap tries := by
    rw [IntKind.wrap_u64]
    omega
  obtain ⟨x, hx⟩ := Int.eq_ofNat_of_zero_le h0
  rw [hx]
  refine ⟨_, rfl, ?_⟩
  have e : ((x : Int).tmod 10) = ((x % 10 : Nat) : Int) := by rw [Int.tmod_eq_emod_of_nonneg (by omega)]; omega
  rw [e]
  unfold wrap64
  omega

set_option maxRecDepth 100000 in
set_option maxHeartbeats 4000000 in
theorem walk_negQuits (a : LinkD) (tries : Int) (w : World) (hm : HasMax w) :
    Calls Tryd.prog 3 #[.agg #[.int .i64 a.mru, .int .i64 a.magic, .int .i64 a.mrru, .bool a.short, .string a.disc, .int .i64 a.num], .int .i64 tries] w fun e w' => e = .returned (.bool true) ∧ Below w.heap.size w w' := by
  have HM := Lib.hid hm
  clear hm
  go_enter Tryd.func3, Tryd.ntmps3
  go_wp2_with fail
  refine (awake_any _ (HM.out.below ((Below.refl _ _).alloc (Nat.le_refl _) _) HM.out.pos)).mono ?_
  rintro e w1 ⟨rfl, hb1⟩
  have hl1 := LinkAt.below (LinkAt.new w a) hb1
  have B1 := Lib.hid (below_trans' ((Below.refl w.heap.size w).alloc (Nat.le_refl _) (.cells a.cells 23)) (by simp) hb1)
  have M1 := Lib.hid (HM.out.below B1.out HM.out.pos)
  obtain ⟨c0, c1, c2, c3, c4, c5⟩ := hl1.cells
  have L1 := Lib.hid hl1
  clear hb1 hl1
  go_wp2_with fail
  obtain ⟨k, hk, hk1, hk2⟩ := quits_k tries
  rw [hk]
  have HK := Lib.hid hk
  clear hk
  rcases hma : a.may with _ | _
  · refine (New_no a k _ (by simp [newFits, hma])).mono ?_
    rintro e w2 ⟨rfl, hb2⟩
    obtain ⟨d0, d1, d2, d3, d4, d5⟩ := (L1.out.below hb2).cells
    have B2 := Lib.hid (below_trans' B1.out B1.out.size hb2)
    clear hb2 c0 c1 c2 c3 c4 c5
    go_wp2_with (first | (go_at_call 14; refine (may_ref a _).mono ?_; rw [hma]; rintro e w3 ⟨rfl, hb3⟩; have B3 := Lib.hid (below_trans' B2.out B2.out.size hb3); clear hb3) | (go_at_call 13; refine (num_any _ _).mono ?_; rintro e w' ⟨rfl, rfl⟩))
    go_ret
    exact ⟨rfl, B3.out⟩
  · refine (New_yes a k _ (by simp [newFits, hma, hk1, hk2])).mono ?_
    rintro e w2 ⟨g, t, v, rfl, hn2, hb2, hg2⟩
    have B2 := Lib.hid (below_trans' B1.out B1.out.size hb2)
    have N2 := Lib.hid hn2
    have hgw : w.heap.size ≤ g := Nat.le_trans B1.out.size hg2
    have M2 := Lib.hid (M1.out.below hb2 M1.out.pos)
    clear hb2 hn2 c0 c1 c2 c3 c4 c5
    go_wp2_with (go_at_call 13; refine (num_any _ _).mono ?_; rintro e w' ⟨rfl, rfl⟩)
    have hd := Do_took g t v (newD a k) 2 _ N2.out M2.out
    rw [do_open0 rfl] at hd
    have HDO := Lib.hid hd
    clear hd
    refine HDO.out.mono ?_
    clear HDO
    rintro e w3 ⟨⟨V3, v3, he, hn, hp⟩⟩
    simp only at he hn hp
    subst he
    have N3 := Lib.hid hn.at_
    have M3 := Lib.hid (M2.out.neg N2.out hn)
    have G3 := Lib.hid hn.grown
    clear hn hp
    go_wp2_with fail
    have hd := Do_took g t v3 _ 0 _ N3.out M3.out
    rw [do_up1 rfl] at hd
    have HDO := Lib.hid hd
    clear hd
    refine HDO.out.mono ?_
    clear HDO
    rintro e w4 ⟨⟨V4, v4, he, hn, hp⟩⟩
    simp only at he hn hp
    subst he
    have N4 := Lib.hid hn.at_
    have M4 := Lib.hid (M3.out.neg N3.out hn)
    have G4 := Lib.hid (grown_row G3.out hn.grown)
    obtain ⟨b4, q4, _, rfl, _⟩ := packs_head hp
    clear hn hp
    have h4 := Lib.hid (show (scr { ({ (newD a k) with state := 1 } : NegD) with state := 6, left := (newD a k).tries }).state = 6 ∧ (scr { ({ (newD a k) with state := 1 } : NegD) with state := 6, left := (newD a k).tries }).left = k - 1 from ⟨rfl, by show max 0 (k - 1) = k - 1; omega⟩)
    generalize scr { ({ (newD a k) with state := 1 } : NegD) with state := 6, left := (newD a k).tries } = n4 at N4 h4
    go_wp2_with fail
    go_loopw [10, 11, 12, 13] (fun m i _ _ wr => ∃ (j : Nat) (vN : Value) (nN : NegD), i = .int .i64 j ∧ j ≤ 20 ∧ NegAt wr g t vN nN ∧ HasMax wr ∧ w2.grownBy wr (some g) ∧
        ((nN.state = 6 ∧ m = .int .i64 (j + 1) ∧ nN.left = k - 1 - j ∧ (j : Int) + 1 ≤ k) ∨ (nN.state = 3 ∧ m = .int .i64 k ∧ (j : Int) = k)))
      (fun _ i _ _ _ => 30 - (intOf i).toNat)
    case atStart => exact ⟨0, v4, n4, rfl, by omega, N4.out, M4.out, G4.out, .inl ⟨h4.out.1, rfl, by rw [h4.out.2]; omega, by omega⟩⟩
    case round =>
      obtain ⟨j, vN, nN, rfl, hj, hn, hmx, hgr, hcase⟩ := hrel
      have NN := Lib.hid hn
      have MN := Lib.hid hmx
      have GN := Lib.hid hgr
      have hd30 : decide ((j : Int) < 30) = true := by simp; omega
      clear hn hmx hgr N4 M4 G4 h4 N3 M3 G3 N2 M2
      rcases hcase with ⟨hs, rfl, hl, hjk⟩ | ⟨hs, rfl, hjk⟩
      · have HST := Lib.hid (show Calls Tryd.prog 16 #[.pointer (some ⟨g, 0, none⟩)] wr fun e w' => e = .returned (.int .i64 6) ∧ wr = w' by rw [← hs]; exact State_any g t vN nN wr NN.out)
        have HS := Lib.hid hs
        have HL := Lib.hid hl
        clear hs hl
        by_cases hz : (j : Int) + 1 = k
        · have hd := Do_took g t vN nN 4 wr NN.out MN.out
          rw [do_over6 HS.out (by rw [HL.out]; omega)] at hd
          have HDO := Lib.hid hd
          have HZ := Lib.hid hz
          clear hd hz
          go_wp2_with (first | (go_at_call 16; refine HST.out.mono ?_; rintro e w' ⟨rfl, rfl⟩) | (go_at_call 15; refine HDO.out.mono ?_; rintro e w5 ⟨⟨V5, v5, he, hn, hp⟩⟩; simp only at he hn hp; subst he; obtain ⟨A5, q5, rfl⟩ := packs_nil hp; have N5 := Lib.hid hn.at_; have M5 := Lib.hid (MN.out.neg NN.out hn); have G5 := Lib.hid (grown_row GN.out hn.grown); clear hn hp) | (go_at_call 13; refine (num_any _ _).mono ?_; rintro e w' ⟨rfl, rfl⟩))
          exact ⟨⟨j + 1, v5, _, by go_num, by omega, N5.out, M5.out, G5.out, .inr ⟨rfl, by rw [← HZ.out], by have := HZ.out; omega⟩⟩, by simp [intOf]; omega⟩
        · have hd := Do_took g t vN nN 4 wr NN.out MN.out
          rw [do_more6 HS.out (by rw [HL.out]; omega)] at hd
          have HDO := Lib.hid hd
          clear hd
          go_wp2_with (first | (go_at_call 16; refine HST.out.mono ?_; rintro e w' ⟨rfl, rfl⟩) | (go_at_call 15; refine HDO.out.mono ?_; rintro e w5 ⟨⟨V5, v5, he, hn, hp⟩⟩; simp only at he hn hp; subst he; obtain ⟨b5, q5, _, rfl, _⟩ := packs_head hp; have N5 := Lib.hid hn.at_; have M5 := Lib.hid (MN.out.neg NN.out hn); have G5 := Lib.hid (grown_row GN.out hn.grown); clear hn hp) | (go_at_call 13; refine (num_any _ _).mono ?_; rintro e w' ⟨rfl, rfl⟩))
          exact ⟨⟨j + 1, v5, _, by go_num, by omega, N5.out, M5.out, G5.out, .inl ⟨rfl, by go_num, by show max 0 (nN.left - 1) = _; rw [HL.out]; omega, by omega⟩⟩, by simp [intOf]; omega⟩
      · have HST := Lib.hid (show Calls Tryd.prog 16 #[.pointer (some ⟨g, 0, none⟩)] wr fun e w' => e = .returned (.int .i64 3) ∧ wr = w' by rw [← hs]; exact State_any g t vN nN wr NN.out)
        clear hs hjk
        go_wp2_with (first | (go_at_call 16; refine HST.out.mono ?_; rintro e w' ⟨rfl, rfl⟩) | (go_at_call 13; refine (num_any _ _).mono ?_; rintro e w' ⟨rfl, rfl⟩))
        go_ret
        exact ⟨rfl, below_of_only GN.out B2.out hgw⟩

set_option maxRecDepth 100000 in
theorem negQuits_lifted (os : Os) (started : os.Started) (H : Type) (enc : TypeId × Value → H) :
    ReturnsInHanded {} Tryd.checked os 3 .any (fun w args => (Rows.negQuitsSpec.pre enc Tryd.prog Tryd.f3 Rows.negQuitsRow.domain false w args ∧ laidMetH Tryd.prog Rows.negQuitsRow.laid w) ∧ sizedMet enc Tryd.prog Tryd.f3 (OpenSpec.ofChange Rows.negQuitsSpec) false w args)
      (Rows.negQuitsSpec.post enc Tryd.prog Tryd.f3 false true false false) := by
  refine returns_shaped_and (C := Tryd.checked) (X := fun w _ => laidMetH Tryd.prog Rows.negQuitsRow.laid w) (fun _ _ _ hh h => h.of_heap hh) own_knob started (by kernel_rfl) Tryd.func3
    (ChangeSpec.witness_shaped (enc := enc) (C := Tryd.checked) (os := os) (X := fun w _ => laidMetH Tryd.prog Rows.negQuitsRow.laid w) false (World.laidAll Tryd.prog os Rows.negQuitsRow.laid) #[.agg #[.int .i64 0, .int .i64 0, .int .i64 0, .bool false, .string ⟨#[]⟩, .int .i64 0], .int .i64 0] 8 (World.laidAll_os _ _ _)
      (World.shaped_of_ZipB (by kernel_rfl) (by kernel_rfl)) (by kernel_rfl) (by kernel_rfl) (by kernel_rfl)
      (by rw [MakeChecks.laidMetH_plain _ _ _ (by kernel_rfl)]; exact laidMet_laidAll _ (by kernel_rfl) (by kernel_rfl))) ?_
  intro W base args ds gs before hval0 hW hcnd hsz0 hL hsh _
  have hval : ∀ (j : Nat) t v, Tryd.f3.params[j]? = some t → args[j]? = some v → Value.okWide Tryd.prog W .any base t v := hval0
  have hmx := has_max hsh
  have hW' := hW
  obtain ⟨p, q, hA0, hV, rfl, hfz, hnd⟩ := hW
  have hA : DataW.TrodAll enc Tryd.prog W 0 (fun _ => true) true Tryd.f3.params.toList args.toList ds p := hA0
  have hsz : (DataW.weightsEach Tryd.prog (Tryd.f3.params.toList ++ Rows.negQuitsSpec.plain.varTypes Tryd.prog) (ds ++ gs)).all (· ≤ reachBytes) = true := hsz0
  rw [Tryd.params3] at hA hval hsz
  obtain ⟨v0, vs0, d0, ds0, p0, q0, hargs, rfl, rfl, h0, r0⟩ := trodAll_cons hA
  obtain ⟨v1, vs1, d1, ds1, p1, q1, rfl, rfl, rfl, h1, r1⟩ := trodAll_cons r0
  obtain ⟨rfl, rfl, rfl⟩ := trodAll_nil r1
  obtain rfl : args = #[v0, v1] := by cases args; simp_all
  obtain ⟨rfl, rfl⟩ := trodVars_none hV
  have k0 := h0
  obtain ⟨a, rfl⟩ := open_link (hval 0 23 v0 rfl rfl) h0
  have k1 := h1
  obtain ⟨tries, rfl, rfl, rfl, w1⟩ := open_int Tryd.underlying3 (hval 1 3 v1 rfl rfl) h1
  have y1 : -9223372036854775808 ≤ tries ∧ tries ≤ 9223372036854775807 := by simpa [Lit.wf, IntKind.min, IntKind.max, IntKind.signed, IntKind.bits] using w1
  clear hA0 hval0
  refine (walk_negQuits a tries W hmx).mono fun e W' ⟨he, bel⟩ => ?_
  subst he
  exact ⟨_, rfl, _, _, _, [], _, [], hW', trodAll_cons_mk (shut_bool Tryd.underlying4 _) trodAll_mk0, (trodAll_cons_mk (Below.trod laid_out (by kernel_rfl) (of_decide_eq_true (by kernel_rfl)) k0 bel (trod_below k0)) (trodAll_cons_mk (Below.trod laid_out (by kernel_rfl) (of_decide_eq_true (by kernel_rfl)) k1 bel (trod_below k1)) trodAll_mk0)), rfl, bel.frame _, fun h => by cases h⟩

theorem negQuits_holds : Rows.NegQuitsSaid :=
  OpenClaim.holds_of_wide 3 Tryd.f3 rfl rfl rfl rfl rfl rfl rfl ⟨rfl, rfl, rfl, rfl, rfl⟩ rfl rfl rfl rfl rfl (by kernel_rfl) Tryd.func3 (by kernel_rfl)
    (of_decide_eq_true (by kernel_rfl)) (by unfold Func.isWrapper; first | (rw [if_pos (by decide +kernel)]; kernel_rfl) | (rw [if_neg (by decide +kernel)]; exact ⟨rfl, rfl⟩))
    (fun os started H enc _ => negQuits_lifted os started H enc)
theorem negQuits_card : Rows.NegQuitsCardSaid :=
  Claim7.holds_tied_plain_at .later [] [.data, .pinned] true (true, "d4a511c915e6a17b6bf218a66d26c660ca8097baf3c083678f03dd7ace4f4ba1") false negQuits_holds (fun _ h => by cases h) (by kernel_rfl) (fun _ h => by cases h) negQuits_row_tie rfl ⟨rfl, rfl⟩ (by kernel_rfl) rfl
    (fun f fn hf hfn => by
      obtain rfl : f = 3 := Option.some.inj ((show Tryd.prog.funcNamed "withy/withylaw15.NegQuits" = some 3 by kernel_rfl).symm.trans hf) |>.symm
      obtain rfl : fn = Tryd.f3 := (Option.some.inj (Tryd.func3.symm.trans hfn)).symm
      exact ⟨by kernel_rfl, fun j t ht => by
        rw [Tryd.params3] at ht
        have hm : t ∈ [23, 3] := by simpa using Array.mem_of_getElem? ht
        have hall : ([23, 3].all fun u => !Tryd.prog.wantsStandIn u) = true := by kernel_rfl
        exact (show Tryd.prog.wantsStandIn t = false by simpa using List.all_eq_true.1 hall t hm)⟩)
    (by kernel_rfl)
#print axioms negQuits_card
end Go.Proofs.YthlfghheciamcaaDoor
