/-
  NegEchoes: an open side answers echoes, refuses unknown codes, and stays open: the law answers true at all links, numbers and strings.
  Conditions: none.
-/
import Derived.Test.YthlfghheciamcaaDoorZ4
namespace Go.Proofs.YthlfghheciamcaaDoor
open Go.RowKit Go.Joins Go.ChangeShapes Go.WideShapes Go.Deep Go.ChangeAt
open Go.ChangeMaps (open_string shut_string)
set_option linter.unusedVariables false

/-- the other side's link -/
def shL : LinkD := ⟨0, 0, 0, true, ⟨#[]⟩, 0⟩
theorem shL_may : shL.may = true := by decide
theorem shL_mag (a : LinkD) : magOk a shL := fun h e => h e
theorem shL_mag2 (a : LinkD) : magOk shL a := fun h => absurd rfl h
theorem code_k (code : Int) : ∃ c, wrap64 (12 + bits .and .i64 code 127) = c ∧ 12 ≤ c ∧ c ≤ 255 := by
  obtain ⟨k, hk, h0, h1⟩ := and_mask code 127 (by omega)
  have hk' : bits .and .i64 code 127 = k := hk
  have h1' : k ≤ 127 := h1
  rw [hk']
  exact ⟨_, rfl, by unfold wrap64; omega, by unfold wrap64; omega⟩
theorem id_k (id : Int) : ∃ i, bits .and .i64 id 255 = i ∧ 0 ≤ i ∧ i ≤ 255 := by
  obtain ⟨k, hk, h0, h1⟩ := and_mask id 255 (by omega)
  exact ⟨k, hk, h0, h1⟩

set_option maxRecDepth 100000 in
set_option maxHeartbeats 8000000 in
theorem walk_negEchoes (a : LinkD) (id : Int) (data : ByteArray) (code : Int) (w : World) (hm : HasMax w) :
    Calls Tryd.prog 5 #[.agg #[.int .i64 a.mru, .int .i64 a.magic, .int .i64 a.mrru, .bool a.short, .string a.disc, .int .i64 a.num], .int .i64 id, .string data, .int .i64 code] w fun e w' => e = .returned (.bool true) ∧ Below w.heap.size w w' := by
  have HM := Lib.hid hm
  clear hm
  go_enter Tryd.func5, Tryd.ntmps5
  go_wp2_with fail
  have hla := LinkAt.new w a
  have hb0 := ((Below.refl w.heap.size w).alloc (Nat.le_refl _) (.cells a.cells 23))
  refine (awake_any _ (HM.out.below hb0 HM.out.pos)).mono ?_
  rintro e w1 ⟨rfl, hb1⟩
  have B1 := Lib.hid (below_trans' hb0 (by simp) hb1)
  have LA1 := Lib.hid (hla.below hb1)
  clear hla hb0 hb1
  obtain ⟨c0, c1, c2, c3, c4, c5⟩ := LA1.out.cells
  go_wp2_with fail
  refine (may_ref a _).mono ?_
  rintro e w2 ⟨rfl, hb2⟩
  have LA2 := Lib.hid (LA1.out.below hb2)
  have B2 := Lib.hid (below_trans' B1.out B1.out.size hb2)
  have M2 := Lib.hid (HM.out.below B2.out HM.out.pos)
  clear c0 c1 c2 c3 c4 c5 hb2 LA1 B1
  rcases hma : a.may with _ | _
  · go_wp2_with fail
    go_ret
    exact ⟨rfl, B2.out⟩
  · obtain ⟨c0, c1, c2, c3, c4, c5⟩ := LA2.out.cells
    go_wp2_with fail
    clear c0 c1 c2 c3 c4 c5
    refine (open_any a shL _ M2.out hma shL_may (shL_mag a) (shL_mag2 a)).mono ?_
    rintro e w4 ⟨⟨gx, tx, vx, x, gy, ty, vy, y, rfl, hT, hox, hoy⟩⟩
    have T4 := Lib.hid hT
    have OX := Lib.hid hox
    clear hT hox hoy
    obtain ⟨i, hi, hi0, hi1⟩ := id_k id
    obtain ⟨c, hc, hc0, hc1⟩ := code_k code
    have HI := Lib.hid hi
    have HC := Lib.hid hc
    clear hi hc
    have hbr : (¬ (100 : Int) < (data.size : Int)) ∨ (100 : Int) < (data.size : Int) := by omega
    rcases hbr with hlt | hlt
    · have HD := Lib.hid (show data.size ≤ 100 by omega)
      go_wp2_with fail
      rw [HI.out]
      clear hlt
      have HDO := Lib.hid (Take_took gx tx vx x ⟨9, i, [], data⟩ none 0 0 w4 T4.out.nx T4.out.max Reads.none_ rfl (by omega) (by simp) (show data.size ≤ 140737488351232 by have := HD.out; omega))
      rw [take_echo9 OX.out.state hi0 hi1 (by have := HD.out; omega)] at HDO
      refine HDO.out.mono ?_
      clear HDO
      rintro e w5 ⟨⟨V5, v5, he, hn, hp⟩⟩
      simp only at he hn hp
      subst he
      have T5 := Lib.hid (T4.out.onX hn)
      have P5 := Lib.hid hp.pk
      clear hn hp T4
      go_wp2_with fail
      rw [HC.out]
      obtain ⟨q, hq, eq⟩ := take_unknown9 (n := { x with state := 9 }) (c := c) (i := i) (d := data) rfl hc0 hc1 hi0 hi1 (by have := HD.out; omega)
      have HDO := Lib.hid (Take_took gx tx v5 _ ⟨c, i, [], data⟩ none 0 0 w5 T5.out.nx T5.out.max Reads.none_ rfl (by omega) (by simp) (show data.size ≤ 140737488351232 by have := HD.out; omega))
      rw [eq] at HDO
      refine HDO.out.mono ?_
      clear HDO eq
      rintro e w6 ⟨⟨V6, v6, he, hn, hp⟩⟩
      simp only at he hn hp
      subst he
      have T6 := Lib.hid (T5.out.onX hn)
      have P6 := Lib.hid (P5.out.onX T5.out hn)
      have Q6 := Lib.hid hp.pk
      clear hn hp T5 P5
      go_wp2_with fail
      have HDO := Lib.hid (Take_took gx tx v6 _ ⟨11, i, [], data⟩ none 0 0 w6 T6.out.nx T6.out.max Reads.none_ rfl (by omega) (by simp) (show data.size ≤ 140737488351232 by have := HD.out; omega))
      rw [take_discard9 rfl hi0 hi1 (by have := HD.out; omega)] at HDO
      refine HDO.out.mono ?_
      clear HDO
      rintro e w7 ⟨⟨V7, v7, he, hn, hp⟩⟩
      simp only at he hn hp
      subst he
      have T7 := Lib.hid (T6.out.onX hn)
      have P7 := Lib.hid (P6.out.onX T6.out hn)
      have Q7 := Lib.hid (Q6.out.onX T6.out hn)
      obtain ⟨A8, c8, rfl⟩ := packs_nil hp
      clear hn hp T6 P6 Q6
      obtain ⟨b5, q5, _, rfl, -⟩ := packs_head P7.out
      obtain ⟨b6, q6, _, rfl, -⟩ := packs_head Q7.out
      obtain ⟨l5, hl5, hp5⟩ := P7.out
      have HL5 := Lib.hid hl5
      have hR5 := hp5.r (fun p hp => by
        have : p.1 ∈ l5.map Prod.fst := List.mem_map_of_mem hp
        rw [hl5] at this
        simp at this
        rw [this]
        simp)
      have R5 := Lib.hid (hR5.below ((Below.refl w7.heap.size w7).alloc (Nat.le_refl _) (.cells #[.int .i64 10, .int .i64 i, .slice none 0 0, .string data] 41)))
      have S5 := Lib.hid (show PackR (w7.alloc (.cells #[.int .i64 10, .int .i64 i, .slice none 0 0, .string data] 41)) (some ⟨w7.heap.size, 0, none⟩) 1 [(⟨10, i, [], data⟩, .slice none 0 0)] from
        ⟨rfl, (reads_new w7 #[.int .i64 10, .int .i64 i, .slice none 0 0, .string data] 41 4 rfl).more (by simp), fun p hp => by simp at hp; subst hp; exact ⟨by simp, none, 0, rfl, Reads.none_⟩⟩)
      have HEQ := Lib.hid (show packsEqB (l5.map Prod.fst) (([(⟨10, i, [], data⟩, .slice none 0 0)] : List (PackD × Value)).map Prod.fst) = true by rw [HL5.out]; exact packsEqB_self _)
      clear hl5 hp5 hR5
      go_wp2_with (first | (go_at_call 13; refine (num_any _ _).mono ?_; rintro e w' ⟨rfl, rfl⟩) | (go_at_call 19; refine (samePackets_any l5 [(⟨10, i, [], data⟩, .slice none 0 0)] _ _ 1 1 _ _ _ R5.out S5.out (by omega)).mono ?_; rintro e w9 ⟨rfl, hz⟩; rw [HEQ.out]; have hbz := Lib.hid (below_trans' ((Below.refl w7.heap.size w7).alloc (Nat.le_refl _) (.cells #[.int .i64 10, .int .i64 i, .slice none 0 0, .string data] 41)) (by simp) hz); have T9 := Lib.hid (T7.out.below hbz.out); obtain ⟨r0, r1, r3, u6, r2, -⟩ := packs_cells (Q7.out.below hbz.out); have hq64 : (q.size : Int) ≤ 64 := by omega) | (go_at_call 16; refine (State_any gx tx v7 _ _ T9.out.nx).mono ?_; rintro e w' ⟨rfl, rfl⟩))
      go_ret
      exact ⟨rfl, below_trans' B2.out B2.out.size T9.out.b⟩
    · have hex : (100 : Int) ≤ (data.size : Int) := by omega
      have HD := Lib.hid (show (data.extract 0 100).size ≤ 100 by simp; omega)
      go_wp2_with fail
      rw [HI.out]
      clear hlt hex
      generalize data.extract 0 100 = data at *
      have HDO := Lib.hid (Take_took gx tx vx x ⟨9, i, [], data⟩ none 0 0 w4 T4.out.nx T4.out.max Reads.none_ rfl (by omega) (by simp) (show data.size ≤ 140737488351232 by have := HD.out; omega))
      rw [take_echo9 OX.out.state hi0 hi1 (by have := HD.out; omega)] at HDO
      refine HDO.out.mono ?_
      clear HDO
      rintro e w5 ⟨⟨V5, v5, he, hn, hp⟩⟩
      simp only at he hn hp
      subst he
      have T5 := Lib.hid (T4.out.onX hn)
      have P5 := Lib.hid hp.pk
      clear hn hp T4
      go_wp2_with fail
      rw [HC.out]
      obtain ⟨q, hq, eq⟩ := take_unknown9 (n := { x with state := 9 }) (c := c) (i := i) (d := data) rfl hc0 hc1 hi0 hi1 (by have := HD.out; omega)
      have HDO := Lib.hid (Take_took gx tx v5 _ ⟨c, i, [], data⟩ none 0 0 w5 T5.out.nx T5.out.max Reads.none_ rfl (by omega) (by simp) (show data.size ≤ 140737488351232 by have := HD.out; omega))
      rw [eq] at HDO
      refine HDO.out.mono ?_
      clear HDO eq
      rintro e w6 ⟨⟨V6, v6, he, hn, hp⟩⟩
      simp only at he hn hp
      subst he
      have T6 := Lib.hid (T5.out.onX hn)
      have P6 := Lib.hid (P5.out.onX T5.out hn)
      have Q6 := Lib.hid hp.pk
      clear hn hp T5 P5
      go_wp2_with fail
      have HDO := Lib.hid (Take_took gx tx v6 _ ⟨11, i, [], data⟩ none 0 0 w6 T6.out.nx T6.out.max Reads.none_ rfl (by omega) (by simp) (show data.size ≤ 140737488351232 by have := HD.out; omega))
      rw [take_discard9 rfl hi0 hi1 (by have := HD.out; omega)] at HDO
      refine HDO.out.mono ?_
      clear HDO
      rintro e w7 ⟨⟨V7, v7, he, hn, hp⟩⟩
      simp only at he hn hp
      subst he
      have T7 := Lib.hid (T6.out.onX hn)
      have P7 := Lib.hid (P6.out.onX T6.out hn)
      have Q7 := Lib.hid (Q6.out.onX T6.out hn)
      obtain ⟨A8, c8, rfl⟩ := packs_nil hp
      clear hn hp T6 P6 Q6
      obtain ⟨b5, q5, _, rfl, -⟩ := packs_head P7.out
      obtain ⟨b6, q6, _, rfl, -⟩ := packs_head Q7.out
      obtain ⟨l5, hl5, hp5⟩ := P7.out
      have HL5 := Lib.hid hl5
      have hR5 := hp5.r (fun p hp => by
        have : p.1 ∈ l5.map Prod.fst := List.mem_map_of_mem hp
        rw [hl5] at this
        simp at this
        rw [this]
        simp)
      have R5 := Lib.hid (hR5.below ((Below.refl w7.heap.size w7).alloc (Nat.le_refl _) (.cells #[.int .i64 10, .int .i64 i, .slice none 0 0, .string data] 41)))
      have S5 := Lib.hid (show PackR (w7.alloc (.cells #[.int .i64 10, .int .i64 i, .slice none 0 0, .string data] 41)) (some ⟨w7.heap.size, 0, none⟩) 1 [(⟨10, i, [], data⟩, .slice none 0 0)] from
        ⟨rfl, (reads_new w7 #[.int .i64 10, .int .i64 i, .slice none 0 0, .string data] 41 4 rfl).more (by simp), fun p hp => by simp at hp; subst hp; exact ⟨by simp, none, 0, rfl, Reads.none_⟩⟩)
      have HEQ := Lib.hid (show packsEqB (l5.map Prod.fst) (([(⟨10, i, [], data⟩, .slice none 0 0)] : List (PackD × Value)).map Prod.fst) = true by rw [HL5.out]; exact packsEqB_self _)
      clear hl5 hp5 hR5
      go_wp2_with (first | (go_at_call 13; refine (num_any _ _).mono ?_; rintro e w' ⟨rfl, rfl⟩) | (go_at_call 19; refine (samePackets_any l5 [(⟨10, i, [], data⟩, .slice none 0 0)] _ _ 1 1 _ _ _ R5.out S5.out (by omega)).mono ?_; rintro e w9 ⟨rfl, hz⟩; rw [HEQ.out]; have hbz := Lib.hid (below_trans' ((Below.refl w7.heap.size w7).alloc (Nat.le_refl _) (.cells #[.int .i64 10, .int .i64 i, .slice none 0 0, .string data] 41)) (by simp) hz); have T9 := Lib.hid (T7.out.below hbz.out); obtain ⟨r0, r1, r3, u6, r2, -⟩ := packs_cells (Q7.out.below hbz.out); have hq64 : (q.size : Int) ≤ 64 := by omega) | (go_at_call 16; refine (State_any gx tx v7 _ _ T9.out.nx).mono ?_; rintro e w' ⟨rfl, rfl⟩))
      go_ret
      exact ⟨rfl, below_trans' B2.out B2.out.size T9.out.b⟩

set_option maxRecDepth 100000 in
theorem negEchoes_lifted (os : Os) (started : os.Started) (H : Type) (enc : TypeId × Value → H) :
    ReturnsInHanded {} Tryd.checked os 5 .any (fun w args => (Rows.negEchoesSpec.pre enc Tryd.prog Tryd.f5 Rows.negEchoesRow.domain false w args ∧ laidMetH Tryd.prog Rows.negEchoesRow.laid w) ∧ sizedMet enc Tryd.prog Tryd.f5 (OpenSpec.ofChange Rows.negEchoesSpec) false w args)
      (Rows.negEchoesSpec.post enc Tryd.prog Tryd.f5 false true false false) := by
  refine returns_shaped_and (C := Tryd.checked) (X := fun w _ => laidMetH Tryd.prog Rows.negEchoesRow.laid w) (fun _ _ _ hh h => h.of_heap hh) own_knob started (by kernel_rfl) Tryd.func5
    (ChangeSpec.witness_shaped (enc := enc) (C := Tryd.checked) (os := os) (X := fun w _ => laidMetH Tryd.prog Rows.negEchoesRow.laid w) false (World.laidAll Tryd.prog os Rows.negEchoesRow.laid) #[.agg #[.int .i64 0, .int .i64 0, .int .i64 0, .bool false, .string ⟨#[]⟩, .int .i64 0], .int .i64 0, .string ⟨#[]⟩, .int .i64 0] 8 (World.laidAll_os _ _ _)
      (World.shaped_of_ZipB (by kernel_rfl) (by kernel_rfl)) (by kernel_rfl) (by kernel_rfl) (by kernel_rfl)
      (by rw [MakeChecks.laidMetH_plain _ _ _ (by kernel_rfl)]; exact laidMet_laidAll _ (by kernel_rfl) (by kernel_rfl))) ?_
  intro W base args ds gs before hval0 hW hcnd hsz0 hL hsh _
  have hval : ∀ (j : Nat) t v, Tryd.f5.params[j]? = some t → args[j]? = some v → Value.okWide Tryd.prog W .any base t v := hval0
  have hmx := has_max hsh
  have hW' := hW
  obtain ⟨p, q, hA0, hV, rfl, hfz, hnd⟩ := hW
  have hA : DataW.TrodAll enc Tryd.prog W 0 (fun _ => true) true Tryd.f5.params.toList args.toList ds p := hA0
  have hsz : (DataW.weightsEach Tryd.prog (Tryd.f5.params.toList ++ Rows.negEchoesSpec.plain.varTypes Tryd.prog) (ds ++ gs)).all (· ≤ reachBytes) = true := hsz0
  rw [Tryd.params5] at hA hval hsz
  obtain ⟨v0, vs0, d0, ds0, p0, q0, hargs, rfl, rfl, h0, r0⟩ := trodAll_cons hA
  obtain ⟨v1, vs1, d1, ds1, p1, q1, rfl, rfl, rfl, h1, r1⟩ := trodAll_cons r0
  obtain ⟨v2, vs2, d2, ds2, p2, q2, rfl, rfl, rfl, h2, r2⟩ := trodAll_cons r1
  obtain ⟨v3, vs3, d3, ds3, p3, q3, rfl, rfl, rfl, h3, r3⟩ := trodAll_cons r2
  obtain ⟨rfl, rfl, rfl⟩ := trodAll_nil r3
  obtain rfl : args = #[v0, v1, v2, v3] := by cases args; simp_all
  obtain ⟨rfl, rfl⟩ := trodVars_none hV
  have k0 := h0
  obtain ⟨a, rfl⟩ := open_link (hval 0 23 v0 rfl rfl) h0
  have k1 := h1
  obtain ⟨id, rfl, rfl, rfl, w1⟩ := open_int Tryd.underlying3 (hval 1 3 v1 rfl rfl) h1
  have y1 : -9223372036854775808 ≤ id ∧ id ≤ 9223372036854775807 := by simpa [Lit.wf, IntKind.min, IntKind.max, IntKind.signed, IntKind.bits] using w1
  have k2 := h2
  obtain ⟨data, rfl, rfl, rfl, w2⟩ := open_string Tryd.underlying9 (hval 2 9 v2 rfl rfl) h2
  have z2 : data.size ≤ 140737488351232 := by
    have := sized_string hsz (j := 2) (t := 9) rfl rfl
    simpa [reachBytes] using this
  have k3 := h3
  obtain ⟨code, rfl, rfl, rfl, w3⟩ := open_int Tryd.underlying3 (hval 3 3 v3 rfl rfl) h3
  have y3 : -9223372036854775808 ≤ code ∧ code ≤ 9223372036854775807 := by simpa [Lit.wf, IntKind.min, IntKind.max, IntKind.signed, IntKind.bits] using w3
  clear hA0 hval0
  refine (walk_negEchoes a id data code W hmx).mono fun e W' ⟨he, bel⟩ => ?_
  subst he
  exact ⟨_, rfl, _, _, _, [], _, [], hW', trodAll_cons_mk (shut_bool Tryd.underlying4 _) trodAll_mk0, (trodAll_cons_mk (Below.trod laid_out (by kernel_rfl) (of_decide_eq_true (by kernel_rfl)) k0 bel (trod_below k0)) (trodAll_cons_mk (Below.trod laid_out (by kernel_rfl) (of_decide_eq_true (by kernel_rfl)) k1 bel (trod_below k1)) (trodAll_cons_mk (Below.trod laid_out (by kernel_rfl) (of_decide_eq_true (by kernel_rfl)) k2 bel (trod_below k2)) (trodAll_cons_mk (Below.trod laid_out (by kernel_rfl) (of_decide_eq_true (by kernel_rfl)) k3 bel (trod_below k3)) trodAll_mk0)))), rfl, bel.frame _, fun h => by cases h⟩

theorem negEchoes_holds : Rows.NegEchoesSaid :=
  OpenClaim.holds_of_wide 5 Tryd.f5 rfl rfl rfl rfl rfl rfl rfl ⟨rfl, rfl, rfl, rfl, rfl⟩ rfl rfl rfl rfl rfl (by kernel_rfl) Tryd.func5 (by kernel_rfl)
    (of_decide_eq_true (by kernel_rfl)) (by unfold Func.isWrapper; first | (rw [if_pos (by decide +kernel)]; kernel_rfl) | (rw [if_neg (by decide +kernel)]; exact ⟨rfl, rfl⟩))
    (fun os started H enc _ => negEchoes_lifted os started H enc)
theorem negEchoes_card : Rows.NegEchoesCardSaid :=
  Claim7.holds_tied_plain_at .later [] [.data, .pinned] true (true, "d4a511c915e6a17b6bf218a66d26c660ca8097baf3c083678f03dd7ace4f4ba1") false negEchoes_holds (fun _ h => by cases h) (by kernel_rfl) (fun _ h => by cases h) negEchoes_row_tie rfl ⟨rfl, rfl⟩ (by kernel_rfl) rfl
    (fun f fn hf hfn => by
      obtain rfl : f = 5 := Option.some.inj ((show Tryd.prog.funcNamed "withy/withylaw15.NegEchoes" = some 5 by kernel_rfl).symm.trans hf) |>.symm
      obtain rfl : fn = Tryd.f5 := (Option.some.inj (Tryd.func5.symm.trans hfn)).symm
      exact ⟨by kernel_rfl, fun j t ht => by
        rw [Tryd.params5] at ht
        have hm : t ∈ [23, 3, 9, 3] := by simpa using Array.mem_of_getElem? ht
        have hall : ([23, 3, 9, 3].all fun u => !Tryd.prog.wantsStandIn u) = true := by kernel_rfl
        exact (show Tryd.prog.wantsStandIn t = false by simpa using List.all_eq_true.1 hall t hm)⟩)
    (by kernel_rfl)
#print axioms negEchoes_card
end Go.Proofs.YthlfghheciamcaaDoor

