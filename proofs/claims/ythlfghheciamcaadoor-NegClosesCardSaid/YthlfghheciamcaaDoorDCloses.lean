/-
  NegCloses: a side that closes tells the other, which answers; both come to rest: the law answers true at all links.
  Conditions: none.
-/
import Derived.Test.YthlfghheciamcaaDoorZ3
namespace Go.Proofs.YthlfghheciamcaaDoor
open Go.RowKit Go.Joins Go.ChangeShapes Go.WideShapes Go.Deep Go.ChangeAt
open Go.ChangeMaps (open_string shut_string)
set_option linter.unusedVariables false

set_option maxRecDepth 100000 in
set_option maxHeartbeats 8000000 in
theorem walk_negCloses (a b : LinkD) (w : World) (hm : HasMax w) :
    Calls Tryd.prog 4 #[.agg #[.int .i64 a.mru, .int .i64 a.magic, .int .i64 a.mrru, .bool a.short, .string a.disc, .int .i64 a.num], .agg #[.int .i64 b.mru, .int .i64 b.magic, .int .i64 b.mrru, .bool b.short, .string b.disc, .int .i64 b.num]] w fun e w' => e = .returned (.bool true) ∧ Below w.heap.size w w' := by
  have HM := Lib.hid hm
  clear hm
  go_enter Tryd.func4, Tryd.ntmps4
  go_wp2_with fail
  have hlb : LinkAt ((w.alloc (.cells a.cells 23)).alloc (.cells b.cells 23)) (w.heap.size + 1) b := by
    have := LinkAt.new (w.alloc (.cells a.cells 23)) b
    rwa [show (w.alloc (.cells a.cells 23)).heap.size = w.heap.size + 1 by simp] at this
  have hla : LinkAt ((w.alloc (.cells a.cells 23)).alloc (.cells b.cells 23)) w.heap.size a := Blk.alloc (LinkAt.new w a) _
  have hb0 := (((Below.refl w.heap.size w).alloc (Nat.le_refl _) (.cells a.cells 23)).alloc (by simp) (.cells b.cells 23))
  refine (awake_any _ (HM.out.below hb0 HM.out.pos)).mono ?_
  rintro e w1 ⟨rfl, hb1⟩
  have B1 := Lib.hid (below_trans' hb0 (by simp; omega) hb1)
  have LA1 := Lib.hid (hla.below hb1)
  have LB1 := Lib.hid (hlb.below hb1)
  clear hlb hla hb0 hb1
  obtain ⟨c0, c1, c2, c3, c4, c5⟩ := LA1.out.cells
  go_wp2_with fail
  refine (may_ref a _).mono ?_
  rintro e w2 ⟨rfl, hb2⟩
  have LA2 := Lib.hid (LA1.out.below hb2)
  have LB2 := Lib.hid (LB1.out.below hb2)
  have B2 := Lib.hid (below_trans' B1.out B1.out.size hb2)
  clear c0 c1 c2 c3 c4 c5 hb2 LA1 LB1 B1
  rcases hma : a.may with _ | _
  · go_wp2_with fail
    go_ret
    exact ⟨rfl, B2.out⟩
  · obtain ⟨c0, c1, c2, c3, c4, c5⟩ := LB2.out.cells
    go_wp2_with fail
    refine (may_ref b _).mono ?_
    rintro e w3 ⟨rfl, hb3⟩
    have LA3 := Lib.hid (LA2.out.below hb3)
    have LB3 := Lib.hid (LB2.out.below hb3)
    have B3 := Lib.hid (below_trans' B2.out B2.out.size hb3)
    have M3 := Lib.hid (HM.out.below B3.out HM.out.pos)
    clear c0 c1 c2 c3 c4 c5 hb3 LA2 LB2 B2
    rcases hmb : b.may with _ | _
    · go_wp2_with fail
      go_ret
      exact ⟨rfl, B3.out⟩
    · obtain ⟨c0, c1, c2, c3, c4, c5⟩ := LA3.out.cells
      obtain ⟨d0, d1, d2, d3, d4, d5⟩ := LB3.out.cells
      by_cases hmg : a.magic ≠ 0 ∧ a.magic = b.magic
      · have hz : (a.magic != 0) = true := by simpa using hmg.1
        have hq : (a.magic == b.magic) = true := by simpa using hmg.2
        clear hmg
        go_wp2_with fail
        go_ret
        exact ⟨rfl, B3.out⟩
      · have hab := Lib.hid (show magOk a b from fun h0 h1 => hmg ⟨h0, h1⟩)
        have hba := Lib.hid (show magOk b a from fun h0 h1 => hmg ⟨by rw [← h1]; exact h0, h1.symm⟩)
        have hor : (a.magic != 0) = false ∨ ((a.magic != 0) = true ∧ (a.magic == b.magic) = false) := by
          by_cases h0 : a.magic = 0
          · exact .inl (by simp [h0])
          · exact .inr ⟨by simpa using h0, by simpa using fun h => hmg ⟨h0, h⟩⟩
        clear hmg
        rcases hor with hz | ⟨hz, hq⟩
        all_goals
          go_wp2_with fail
          clear c0 c1 c2 c3 c4 c5 d0 d1 d2 d3 d4 d5
          refine (open_any a b _ M3.out hma hmb hab.out hba.out).mono ?_
          rintro e w4 ⟨⟨gx, tx, vx, x, gy, ty, vy, y, rfl, hT, hox, hoy⟩⟩
          have T4 := Lib.hid hT
          have OX := Lib.hid hox
          have OY := Lib.hid hoy
          clear hT hox hoy
          go_wp2_with fail
          have HDO := Lib.hid (Do_took gx tx vx x 3 _ T4.out.nx T4.out.max)
          rw [do_close9 OX.out.state] at HDO
          have hid0 := T4.out.nx.fit
          have hi := nextI_range x.id
          refine HDO.out.mono ?_
          clear HDO hid0
          rintro e w5 ⟨⟨V5, v5, he, hn, hp⟩⟩
          simp only at he hn hp
          subst he
          generalize nextI x.id = i at *
          have HI := Lib.hid hi
          have T5 := Lib.hid (T4.out.onX hn)
          have P5 := Lib.hid hp.pk
          clear hn hp T4 hi
          obtain ⟨b5, q5, _, rfl, -⟩ := packs_head P5.out
          obtain ⟨p0, p1, p3, u5, p2, ho5⟩ := packs_cells P5.out
          obtain ⟨A5, c5, rfl, _, _, _⟩ := own_shape ho5
          have R5 := Lib.hid (Reads.of_own ho5)
          clear ho5
          go_wp2_with (first | (go_at_call 13; refine (num_any _ _).mono ?_; rintro e w' ⟨rfl, rfl⟩) | (go_at_call 16; refine (State_any gx tx v5 _ _ T5.out.nx).mono ?_; rintro e w' ⟨rfl, rfl⟩))
          clear p0 p1 p2 p3
          have HDO := Lib.hid (Take_took gy ty vy y ⟨5, i, [], emptyB⟩ A5 0 c5 w5 T5.out.ny T5.out.max R5.out rfl (by omega) (by simp) empty_small)
          rw [take_term9 OY.out.state HI.out.1 HI.out.2] at HDO
          refine HDO.out.mono ?_
          clear HDO
          rintro e w6 ⟨⟨V6, v6, he, hn, hp⟩⟩
          simp only at he hn hp
          subst he
          have T6 := Lib.hid (T5.out.onY hn)
          have P6 := Lib.hid (P5.out.onY T5.out hn)
          have Q6 := Lib.hid hp.pk
          clear hn hp T5 P5 R5
          obtain ⟨b6, q6, _, rfl, -⟩ := packs_head Q6.out
          obtain ⟨p0, p1, p3, u5, p2, -⟩ := packs_cells P6.out
          obtain ⟨r0, r1, r3, u6, r2, -⟩ := packs_cells Q6.out
          have n0 := Near.cell p1
          have n1 := Near.cell r0
          have n2 := Near.cell r1
          have hst : ∀ z : Near w6, Calls Tryd.prog 16 #[.pointer (some ⟨gy, 0, none⟩)] z.v fun e w' => e = .returned (.int .i64 5) ∧ z.v = w' := fun z => State_any gy ty v6 _ z.v (T6.out.ny.below z.below)
          have HST := Lib.hid hst
          clear hst p0 p1 p2 p3 r0 r1 r2 r3
          go_wp2_with fail
          refine wp_region_near (by kernel_rfl) (by kernel_rfl) ?_
          repeat (go_big_quiet_step ((first | (go_at_call 13; exact near_of_same (num_any _ _)) | (go_at_call 16; exact near_of_same (HST.out _)))))
          refine wpQuiet_nil ?_
          intro z
          have T7 := Lib.hid (T6.out.below z.below)
          have Q7 := Lib.hid (Q6.out.below z.below)
          clear n0 n1 n2 HST T6 P6 Q6
          generalize z.v = w7 at *
          obtain ⟨r0, r1, r3, u7, r2, ho7⟩ := packs_cells Q7.out
          obtain ⟨A7, c7, rfl, _, _, _⟩ := own_shape ho7
          have R7 := Lib.hid (Reads.of_own ho7)
          clear ho7 Q7
          go_wp2_with fail
          clear r0 r1 r2 r3
          have HDO := Lib.hid (Take_took gx tx v5 _ ⟨6, i, [], emptyB⟩ A7 0 c7 w7 T7.out.nx T7.out.max R7.out rfl (by omega) (by simp) empty_small)
          rw [take_termack4 rfl HI.out.1 HI.out.2] at HDO
          refine HDO.out.mono ?_
          clear HDO R7
          rintro e w8 ⟨⟨V8, v8, he, hn, hp⟩⟩
          simp only at he hn hp
          subst he
          have T8 := Lib.hid (T7.out.onX hn)
          obtain ⟨A8, c8, rfl⟩ := packs_nil hp
          clear hn hp T7
          go_wp2_with fail
          have HDO := Lib.hid (Do_took gy ty v6 _ 4 _ T8.out.ny T8.out.max)
          rw [do_more5 rfl rfl] at HDO
          refine HDO.out.mono ?_
          clear HDO
          rintro e w9 ⟨⟨V9, v9, he, hn, hp⟩⟩
          simp only at he hn hp
          subst he
          have T9 := Lib.hid (T8.out.onY hn)
          clear hn hp T8
          have HST := Lib.hid (State_any gx tx v8 _ w9 T9.out.nx)
          have HST2 := Lib.hid (State_any gy ty v9 _ w9 T9.out.ny)
          go_wp2_with (first | (go_at_call 13; refine (num_any _ _).mono ?_; rintro e w' ⟨rfl, rfl⟩) | (go_at_call 16; first | (refine HST.out.mono ?_; rintro e w' ⟨rfl, rfl⟩) | (refine HST2.out.mono ?_; rintro e w' ⟨rfl, rfl⟩)))
          go_ret
          exact ⟨rfl, below_trans' B3.out B3.out.size T9.out.b⟩


set_option maxRecDepth 100000 in
theorem negCloses_lifted (os : Os) (started : os.Started) (H : Type) (enc : TypeId × Value → H) :
    ReturnsInHanded {} Tryd.checked os 4 .any (fun w args => (Rows.negClosesSpec.pre enc Tryd.prog Tryd.f4 Rows.negClosesRow.domain false w args ∧ laidMetH Tryd.prog Rows.negClosesRow.laid w) ∧ sizedMet enc Tryd.prog Tryd.f4 (OpenSpec.ofChange Rows.negClosesSpec) false w args)
      (Rows.negClosesSpec.post enc Tryd.prog Tryd.f4 false true false false) := by
  refine returns_shaped_and (C := Tryd.checked) (X := fun w _ => laidMetH Tryd.prog Rows.negClosesRow.laid w) (fun _ _ _ hh h => h.of_heap hh) own_knob started (by kernel_rfl) Tryd.func4
    (ChangeSpec.witness_shaped (enc := enc) (C := Tryd.checked) (os := os) (X := fun w _ => laidMetH Tryd.prog Rows.negClosesRow.laid w) false (World.laidAll Tryd.prog os Rows.negClosesRow.laid) #[.agg #[.int .i64 0, .int .i64 0, .int .i64 0, .bool false, .string ⟨#[]⟩, .int .i64 0], .agg #[.int .i64 0, .int .i64 0, .int .i64 0, .bool false, .string ⟨#[]⟩, .int .i64 0]] 8 (World.laidAll_os _ _ _)
      (World.shaped_of_ZipB (by kernel_rfl) (by kernel_rfl)) (by kernel_rfl) (by kernel_rfl) (by kernel_rfl)
      (by rw [MakeChecks.laidMetH_plain _ _ _ (by kernel_rfl)]; exact laidMet_laidAll _ (by kernel_rfl) (by kernel_rfl))) ?_
  intro W base args ds gs before hval0 hW hcnd hsz0 hL hsh _
  have hval : ∀ (j : Nat) t v, Tryd.f4.params[j]? = some t → args[j]? = some v → Value.okWide Tryd.prog W .any base t v := hval0
  have hmx := has_max hsh
  have hW' := hW
  obtain ⟨p, q, hA0, hV, rfl, hfz, hnd⟩ := hW
  have hA : DataW.TrodAll enc Tryd.prog W 0 (fun _ => true) true Tryd.f4.params.toList args.toList ds p := hA0
  have hsz : (DataW.weightsEach Tryd.prog (Tryd.f4.params.toList ++ Rows.negClosesSpec.plain.varTypes Tryd.prog) (ds ++ gs)).all (· ≤ reachBytes) = true := hsz0
  rw [Tryd.params4] at hA hval hsz
  obtain ⟨v0, vs0, d0, ds0, p0, q0, hargs, rfl, rfl, h0, r0⟩ := trodAll_cons hA
  obtain ⟨v1, vs1, d1, ds1, p1, q1, rfl, rfl, rfl, h1, r1⟩ := trodAll_cons r0
  obtain ⟨rfl, rfl, rfl⟩ := trodAll_nil r1
  obtain rfl : args = #[v0, v1] := by cases args; simp_all
  obtain ⟨rfl, rfl⟩ := trodVars_none hV
  have k0 := h0
  obtain ⟨a, rfl⟩ := open_link (hval 0 23 v0 rfl rfl) h0
  have k1 := h1
  obtain ⟨b, rfl⟩ := open_link (hval 1 23 v1 rfl rfl) h1
  clear hA0 hval0
  refine (walk_negCloses a b W hmx).mono fun e W' ⟨he, bel⟩ => ?_
  subst he
  exact ⟨_, rfl, _, _, _, [], _, [], hW', trodAll_cons_mk (shut_bool Tryd.underlying4 _) trodAll_mk0, (trodAll_cons_mk (Below.trod laid_out (by kernel_rfl) (of_decide_eq_true (by kernel_rfl)) k0 bel (trod_below k0)) (trodAll_cons_mk (Below.trod laid_out (by kernel_rfl) (of_decide_eq_true (by kernel_rfl)) k1 bel (trod_below k1)) trodAll_mk0)), rfl, bel.frame _, fun h => by cases h⟩

theorem negCloses_holds : Rows.NegClosesSaid :=
  OpenClaim.holds_of_wide 4 Tryd.f4 rfl rfl rfl rfl rfl rfl rfl ⟨rfl, rfl, rfl, rfl, rfl⟩ rfl rfl rfl rfl rfl (by kernel_rfl) Tryd.func4 (by kernel_rfl)
    (of_decide_eq_true (by kernel_rfl)) (by unfold Func.isWrapper; first | (rw [if_pos (by decide +kernel)]; kernel_rfl) | (rw [if_neg (by decide +kernel)]; exact ⟨rfl, rfl⟩))
    (fun os started H enc _ => negCloses_lifted os started H enc)
theorem negCloses_card : Rows.NegClosesCardSaid :=
  Claim7.holds_tied_plain_at .later [] [.data, .pinned] true (true, "d4a511c915e6a17b6bf218a66d26c660ca8097baf3c083678f03dd7ace4f4ba1") false negCloses_holds (fun _ h => by cases h) (by kernel_rfl) (fun _ h => by cases h) negCloses_row_tie rfl ⟨rfl, rfl⟩ (by kernel_rfl) rfl
    (fun f fn hf hfn => by
      obtain rfl : f = 4 := Option.some.inj ((show Tryd.prog.funcNamed "withy/withylaw15.NegCloses" = some 4 by kernel_rfl).symm.trans hf) |>.symm
      obtain rfl : fn = Tryd.f4 := (Option.some.inj (Tryd.func4.symm.trans hfn)).symm
      exact ⟨by kernel_rfl, fun j t ht => by
        rw [Tryd.params4] at ht
        have hm : t ∈ [23, 23] := by simpa using Array.mem_of_getElem? ht
        have hall : ([23, 23].all fun u => !Tryd.prog.wantsStandIn u) = true := by kernel_rfl
        exact (show Tryd.prog.wantsStandIn t = false by simpa using List.all_eq_true.1 hall t hm)⟩)
    (by kernel_rfl)
#print axioms negCloses_card
end Go.Proofs.YthlfghheciamcaaDoor

