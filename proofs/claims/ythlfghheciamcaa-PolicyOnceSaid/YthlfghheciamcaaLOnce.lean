/-
  PolicyOnce: to learn the same again turns nothing more: the law answers true at every link and every options.
  Conditions: none.
-/
import Derived.Test.YthlfghheciamcaaM2
import Derived.Test.YthlfghheciamcaaT3
namespace Go.Proofs.Ythlfghheciamcaa
open Go.RowKit Go.Joins Go.ChangeShapes Go.WideShapes Go.Deep
open Go.ChangeMaps (open_string shut_string)
set_option linter.unusedVariables false

set_option maxRecDepth 100000 in
set_option maxHeartbeats 4000000 in
theorem walk_policyOnce (a : LinkD) (nak : Bool) (A : Option Addr) (n c : Nat) (os : List OptD) (w : World) (hr : Reads w w.heap.size 2 A n (optCells os)) (hn : os.length = n) (hn2 : n * 24 ≤ 140737488351232) (hd : ∀ o ∈ os, o.data.size ≤ 140737488351232) :
    Calls Try.prog 8 #[.agg #[.int .i64 a.mru, .int .i64 a.magic, .int .i64 a.mrru, .bool a.short, .string a.disc, .int .i64 a.num], .bool nak, .slice A n c] w fun e w' => e = .returned (.bool true) ∧ Below w.heap.size w w' := by
  go_enter Try.func8, Try.ntmps8
  go_wp2_with fail
  have hla := Lib.hid ((LinkAt.new w a))
  have HR := Lib.hid (hr.alloc (Nat.le_refl _) (.cells a.cells 23))
  have hb := Lib.hid (((Below.refl w.heap.size w).alloc (Nat.le_refl _) (.cells a.cells 23)))
  clear hr
  refine (awake_any _).mono ?_
  rintro e w1 ⟨rfl, hk1⟩
  have ha1 := Lib.hid (hla.out.below hk1)
  have HR1 := Lib.hid ((HR.out.more (B' := w.heap.size + 1) (by omega)).below (by have := hk1; simp only [World.size_alloc] at this; exact this))
  have hw1 := Lib.hid (below_trans' hb.out hb.out.size hk1)
  clear hla HR hb hk1
  obtain ⟨c0, c1, c2, c3, c4, c5⟩ := ha1.out.cells
  have hz1 := ha1.out.lt
  rcases nak with _ | _
  · go_wp2_with fail
    have hl2 := learn_call a 4 A n c os w1 (HR1.out.more (by omega)) hn (by omega) hd
    rcases hma : a.may with _ | _
    · rw [learnD_no 4 os hma] at hl2
      have HL2 := Lib.hid hl2
      clear hl2
      refine HL2.out.mono ?_
      rintro e w2 ⟨rfl, hk2⟩
      have ha2 := Lib.hid (ha1.out.below hk2)
      have hw2 := Lib.hid (below_trans' hw1.out hw1.out.size hk2)
      have hz2 := ha2.out.lt
      have HBb := Lib.hid (hw2.out.alloc hw2.out.size (.cells zeroL.cells 23))
      have HBL : Hid (LinkAt (w2.alloc (.cells zeroL.cells 23)) w2.heap.size zeroL) := Lib.hid (LinkAt.new w2 zeroL)
      have hqq : ∀ w, (binOp .eql 23 (.agg #[.int .i64 0, .int .i64 0, .int .i64 0, .bool false, .string ⟨#[]⟩, .int .i64 0]) (.agg #[.int .i64 0, .int .i64 0, .int .i64 0, .bool false, .string ⟨#[]⟩, .int .i64 0])).run Try.prog w = .ok (.bool true) w := fun w => (link_eql zeroL zeroL w).trans (by rw [show LinkD.eqB zeroL zeroL = true by decide +kernel])
      clear hk2 HL2 c0 c1 c2 c3 c4 c5
      obtain ⟨c0, c1, c2, c3, c4, c5⟩ := (ha2.out.alloc (.cells zeroL.cells 23)).cells
      simp only [LinkD.cells, zeroL]
      simp only [LinkD.cells, zeroL] at c0 c1 c2 c3 c4 c5
      go_wp2_with (first | (go_at_call 11; refine (num_any _ _).mono ?_; rintro e w' ⟨rfl, rfl⟩) | (go_at_call 14; refine (may_ref a _).mono ?_; rintro e w3 ⟨rfl, hk3⟩; obtain ⟨q0, q1, q2, q3, q4, q5⟩ := (HBL.out.below hk3).cells; simp only [zeroL] at q0 q1 q2 q3 q4 q5; have hw3 := Lib.hid (below_trans' HBb.out HBb.out.size hk3); clear hk3))
      go_ret
      exact ⟨rfl, hw3.out⟩
    · have hmb := may_learnAll (nak := false) os hma
      have hlb := learn_twice false os a
      rw [show learnD a 4 os = (a.learnAll false os, 0) from learnD_yes false os hma] at hl2
      generalize a.learnAll false os = b at *
      have HL2 := Lib.hid hl2
      have HLB := Lib.hid hlb
      clear hl2 hlb
      refine HL2.out.mono ?_
      rintro e w2 ⟨rfl, hk2⟩
      have ha2 := Lib.hid ((ha1.out.below hk2).alloc (.cells b.cells 23))
      have hw2 := Lib.hid ((below_trans' hw1.out hw1.out.size hk2).alloc (below_trans' hw1.out hw1.out.size hk2).size (.cells b.cells 23))
      have HR2 := Lib.hid (((HR1.out.more (B' := w1.heap.size) (by omega)).below hk2).alloc hk2.size (.cells b.cells 23))
      have hb2 := Lib.hid (LinkAt.new w2 b)
      have hz2 := hk2.size
      clear hk2 HL2 c0 c1 c2 c3 c4 c5 ha1 hw1 HR1
      obtain ⟨c0, c1, c2, c3, c4, c5⟩ := ha2.out.cells
      simp only [LinkD.cells] at *
      go_wp2_with (go_at_call 11; refine (num_any _ _).mono ?_; rintro e w' ⟨rfl, rfl⟩)
      obtain ⟨b0, b1, b2, b3, b4, b5⟩ := hb2.out.cells
      go_wp2_with fail
      have hl3 := learn_call b 4 A n c os _ (HR2.out.more (by simp; omega)) hn (by omega) hd
      rw [show learnD b 4 os = (b.learnAll false os, 0) from learnD_yes false os hmb, HLB.out] at hl3
      refine hl3.mono ?_
      clear hl3
      rintro e w3 ⟨rfl, hk3⟩
      have ha3 := Lib.hid ((ha2.out.below hk3).alloc (.cells b.cells 23))
      have hw3 := Lib.hid ((below_trans' hw2.out hw2.out.size hk3).alloc (below_trans' hw2.out hw2.out.size hk3).size (.cells b.cells 23))
      have hb3 := Lib.hid ((hb2.out.below hk3).alloc (.cells b.cells 23))
      have hd3 := Lib.hid (LinkAt.new w3 b)
      have hz3 := hk3.size
      have he3 := (hb2.out.below hk3).lt
      clear hk3 c0 c1 c2 c3 c4 c5 b0 b1 b2 b3 b4 b5 ha2 hw2 HR2 hb2 HLB
      obtain ⟨c0, c1, c2, c3, c4, c5⟩ := ha3.out.cells
      simp only [LinkD.cells]
      simp only [LinkD.cells] at c0 c1 c2 c3 c4 c5
      go_wp2_with fail
      have hl4 := learn_call a 4 none 0 0 [] (w3.alloc (.cells b.cells 23)) Reads.none_ rfl (by omega) (fun o ho => by cases ho)
      rw [learnD_nil hma (by simp)] at hl4
      refine hl4.mono ?_
      clear hl4
      rintro e w4 ⟨rfl, hk4⟩
      have ha4 := Lib.hid ((ha3.out.below hk4).alloc (.cells a.cells 23))
      have hw4 := Lib.hid ((below_trans' hw3.out hw3.out.size hk4).alloc (below_trans' hw3.out hw3.out.size hk4).size (.cells a.cells 23))
      have hb4 := Lib.hid ((hb3.out.below hk4).alloc (.cells a.cells 23))
      have hd4 := Lib.hid ((hd3.out.below hk4).alloc (.cells a.cells 23))
      have hf4 := Lib.hid (LinkAt.new w4 a)
      have hz4 := (hd3.out.below hk4).lt
      have hq1 : ∀ w, (binOp .eql 23 (.agg #[.int .i64 b.mru, .int .i64 b.magic, .int .i64 b.mrru, .bool b.short, .string b.disc, .int .i64 b.num]) (.agg #[.int .i64 b.mru, .int .i64 b.magic, .int .i64 b.mrru, .bool b.short, .string b.disc, .int .i64 b.num])).run Try.prog w = .ok (.bool true) w := fun w => (link_eql b b w).trans (by rw [LinkD.eqB_iff, decide_eq_true rfl])
      have hq2 : ∀ w, (binOp .eql 23 (.agg #[.int .i64 a.mru, .int .i64 a.magic, .int .i64 a.mrru, .bool a.short, .string a.disc, .int .i64 a.num]) (.agg #[.int .i64 a.mru, .int .i64 a.magic, .int .i64 a.mrru, .bool a.short, .string a.disc, .int .i64 a.num])).run Try.prog w = .ok (.bool true) w := fun w => (link_eql a a w).trans (by rw [LinkD.eqB_iff, decide_eq_true rfl])
      clear hk4 c0 c1 c2 c3 c4 c5 ha3 hw3 hb3 hd3
      obtain ⟨a0, a1, a2, a3, a4, a5⟩ := ha4.out.cells
      obtain ⟨b0, b1, b2, b3, b4, b5⟩ := hb4.out.cells
      obtain ⟨d0, d1, d2, d3, d4, d5⟩ := hd4.out.cells
      simp only [LinkD.cells]
      simp only [LinkD.cells] at a0 a1 a2 a3 a4 a5 b0 b1 b2 b3 b4 b5 d0 d1 d2 d3 d4 d5
      go_wp2_with (first | (go_at_call 11; refine (num_any _ _).mono ?_; rintro e w' ⟨rfl, rfl⟩) | (go_at_call 14; refine (may_ref b _).mono ?_; rintro e w5 ⟨rfl, hk5⟩; have hw5 := Lib.hid (below_trans' hw4.out hw4.out.size hk5); clear hk5))
      go_ret
      exact ⟨rfl, hw5.out⟩
  · go_wp2_with fail
    have hl2 := learn_call a 3 A n c os w1 (HR1.out.more (by omega)) hn (by omega) hd
    rcases hma : a.may with _ | _
    · rw [learnD_no 3 os hma] at hl2
      have HL2 := Lib.hid hl2
      clear hl2
      refine HL2.out.mono ?_
      rintro e w2 ⟨rfl, hk2⟩
      have ha2 := Lib.hid (ha1.out.below hk2)
      have hw2 := Lib.hid (below_trans' hw1.out hw1.out.size hk2)
      have hz2 := ha2.out.lt
      have HBb := Lib.hid (hw2.out.alloc hw2.out.size (.cells zeroL.cells 23))
      have HBL : Hid (LinkAt (w2.alloc (.cells zeroL.cells 23)) w2.heap.size zeroL) := Lib.hid (LinkAt.new w2 zeroL)
      have hqq : ∀ w, (binOp .eql 23 (.agg #[.int .i64 0, .int .i64 0, .int .i64 0, .bool false, .string ⟨#[]⟩, .int .i64 0]) (.agg #[.int .i64 0, .int .i64 0, .int .i64 0, .bool false, .string ⟨#[]⟩, .int .i64 0])).run Try.prog w = .ok (.bool true) w := fun w => (link_eql zeroL zeroL w).trans (by rw [show LinkD.eqB zeroL zeroL = true by decide +kernel])
      clear hk2 HL2 c0 c1 c2 c3 c4 c5
      obtain ⟨c0, c1, c2, c3, c4, c5⟩ := (ha2.out.alloc (.cells zeroL.cells 23)).cells
      simp only [LinkD.cells, zeroL]
      simp only [LinkD.cells, zeroL] at c0 c1 c2 c3 c4 c5
      go_wp2_with (first | (go_at_call 11; refine (num_any _ _).mono ?_; rintro e w' ⟨rfl, rfl⟩) | (go_at_call 14; refine (may_ref a _).mono ?_; rintro e w3 ⟨rfl, hk3⟩; obtain ⟨q0, q1, q2, q3, q4, q5⟩ := (HBL.out.below hk3).cells; simp only [zeroL] at q0 q1 q2 q3 q4 q5; have hw3 := Lib.hid (below_trans' HBb.out HBb.out.size hk3); clear hk3))
      go_ret
      exact ⟨rfl, hw3.out⟩
    · have hmb := may_learnAll (nak := true) os hma
      have hlb := learn_twice true os a
      rw [show learnD a 3 os = (a.learnAll true os, 0) from learnD_yes true os hma] at hl2
      generalize a.learnAll true os = b at *
      have HL2 := Lib.hid hl2
      have HLB := Lib.hid hlb
      clear hl2 hlb
      refine HL2.out.mono ?_
      rintro e w2 ⟨rfl, hk2⟩
      have ha2 := Lib.hid ((ha1.out.below hk2).alloc (.cells b.cells 23))
      have hw2 := Lib.hid ((below_trans' hw1.out hw1.out.size hk2).alloc (below_trans' hw1.out hw1.out.size hk2).size (.cells b.cells 23))
      have HR2 := Lib.hid (((HR1.out.more (B' := w1.heap.size) (by omega)).below hk2).alloc hk2.size (.cells b.cells 23))
      have hb2 := Lib.hid (LinkAt.new w2 b)
      have hz2 := hk2.size
      clear hk2 HL2 c0 c1 c2 c3 c4 c5 ha1 hw1 HR1
      obtain ⟨c0, c1, c2, c3, c4, c5⟩ := ha2.out.cells
      simp only [LinkD.cells] at *
      go_wp2_with (go_at_call 11; refine (num_any _ _).mono ?_; rintro e w' ⟨rfl, rfl⟩)
      obtain ⟨b0, b1, b2, b3, b4, b5⟩ := hb2.out.cells
      go_wp2_with fail
      have hl3 := learn_call b 3 A n c os _ (HR2.out.more (by simp; omega)) hn (by omega) hd
      rw [show learnD b 3 os = (b.learnAll true os, 0) from learnD_yes true os hmb, HLB.out] at hl3
      refine hl3.mono ?_
      clear hl3
      rintro e w3 ⟨rfl, hk3⟩
      have ha3 := Lib.hid ((ha2.out.below hk3).alloc (.cells b.cells 23))
      have hw3 := Lib.hid ((below_trans' hw2.out hw2.out.size hk3).alloc (below_trans' hw2.out hw2.out.size hk3).size (.cells b.cells 23))
      have hb3 := Lib.hid ((hb2.out.below hk3).alloc (.cells b.cells 23))
      have hd3 := Lib.hid (LinkAt.new w3 b)
      have hz3 := hk3.size
      have he3 := (hb2.out.below hk3).lt
      clear hk3 c0 c1 c2 c3 c4 c5 b0 b1 b2 b3 b4 b5 ha2 hw2 HR2 hb2 HLB
      obtain ⟨c0, c1, c2, c3, c4, c5⟩ := ha3.out.cells
      simp only [LinkD.cells]
      simp only [LinkD.cells] at c0 c1 c2 c3 c4 c5
      go_wp2_with fail
      have hl4 := learn_call a 3 none 0 0 [] (w3.alloc (.cells b.cells 23)) Reads.none_ rfl (by omega) (fun o ho => by cases ho)
      rw [learnD_nil hma (by simp)] at hl4
      refine hl4.mono ?_
      clear hl4
      rintro e w4 ⟨rfl, hk4⟩
      have ha4 := Lib.hid ((ha3.out.below hk4).alloc (.cells a.cells 23))
      have hw4 := Lib.hid ((below_trans' hw3.out hw3.out.size hk4).alloc (below_trans' hw3.out hw3.out.size hk4).size (.cells a.cells 23))
      have hb4 := Lib.hid ((hb3.out.below hk4).alloc (.cells a.cells 23))
      have hd4 := Lib.hid ((hd3.out.below hk4).alloc (.cells a.cells 23))
      have hf4 := Lib.hid (LinkAt.new w4 a)
      have hz4 := (hd3.out.below hk4).lt
      have hq1 : ∀ w, (binOp .eql 23 (.agg #[.int .i64 b.mru, .int .i64 b.magic, .int .i64 b.mrru, .bool b.short, .string b.disc, .int .i64 b.num]) (.agg #[.int .i64 b.mru, .int .i64 b.magic, .int .i64 b.mrru, .bool b.short, .string b.disc, .int .i64 b.num])).run Try.prog w = .ok (.bool true) w := fun w => (link_eql b b w).trans (by rw [LinkD.eqB_iff, decide_eq_true rfl])
      have hq2 : ∀ w, (binOp .eql 23 (.agg #[.int .i64 a.mru, .int .i64 a.magic, .int .i64 a.mrru, .bool a.short, .string a.disc, .int .i64 a.num]) (.agg #[.int .i64 a.mru, .int .i64 a.magic, .int .i64 a.mrru, .bool a.short, .string a.disc, .int .i64 a.num])).run Try.prog w = .ok (.bool true) w := fun w => (link_eql a a w).trans (by rw [LinkD.eqB_iff, decide_eq_true rfl])
      clear hk4 c0 c1 c2 c3 c4 c5 ha3 hw3 hb3 hd3
      obtain ⟨a0, a1, a2, a3, a4, a5⟩ := ha4.out.cells
      obtain ⟨b0, b1, b2, b3, b4, b5⟩ := hb4.out.cells
      obtain ⟨d0, d1, d2, d3, d4, d5⟩ := hd4.out.cells
      simp only [LinkD.cells]
      simp only [LinkD.cells] at a0 a1 a2 a3 a4 a5 b0 b1 b2 b3 b4 b5 d0 d1 d2 d3 d4 d5
      go_wp2_with (first | (go_at_call 11; refine (num_any _ _).mono ?_; rintro e w' ⟨rfl, rfl⟩) | (go_at_call 14; refine (may_ref b _).mono ?_; rintro e w5 ⟨rfl, hk5⟩; have hw5 := Lib.hid (below_trans' hw4.out hw4.out.size hk5); clear hk5))
      go_ret
      exact ⟨rfl, hw5.out⟩

set_option maxRecDepth 100000 in
theorem policyOnce_lifted (os : Os) (started : os.Started) (H : Type) (enc : TypeId × Value → H) :
    ReturnsInHanded {} Try.checked os 8 .any (Rows.policyOnceSpec.pre6 enc Try.prog Try.f8 Rows.policyOnceRow.domain false) (Rows.policyOnceSpec.post enc Try.prog Try.f8 false true false false) := by
  refine returnsInHanded_of_change_sized (C := Try.checked) own_knob started (by kernel_rfl) Try.func8
    (ChangeSpec.witness6 (enc := enc) (C := Try.checked) false ⟨#[], #[.agg #[.int .i64 0, .int .i64 0, .int .i64 0, .bool false, .string ⟨#[]⟩, .int .i64 0], .bool false, .slice none 0 0], []⟩ 8 (by kernel_rfl) (by kernel_rfl) (by kernel_rfl) (by kernel_rfl)) ?_
  intro W base args ds gs before hval0 hW hcnd hsz0 _
  have hval : ∀ (j : Nat) t v, Try.f8.params[j]? = some t → args[j]? = some v → Value.okWide Try.prog W .any base t v := hval0
  have hW' := hW
  obtain ⟨p, q, hA0, hV, rfl, hfz, hnd⟩ := hW
  have hA : DataW.TrodAll enc Try.prog W 0 (fun _ => true) true Try.f8.params.toList args.toList ds p := hA0
  have hsz : (DataW.weightsEach Try.prog (Try.f8.params.toList ++ Rows.policyOnceSpec.plain.varTypes Try.prog) (ds ++ gs)).all (· ≤ reachBytes) = true := hsz0
  rw [Try.params8] at hA hval hsz
  obtain ⟨v0, vs0, d0, ds0, p0, q0, hargs, rfl, rfl, h0, r0⟩ := trodAll_cons hA
  obtain ⟨v1, vs1, d1, ds1, p1, q1, rfl, rfl, rfl, h1, r1⟩ := trodAll_cons r0
  obtain ⟨v2, vs2, d2, ds2, p2, q2, rfl, rfl, rfl, h2, r2⟩ := trodAll_cons r1
  obtain ⟨rfl, rfl, rfl⟩ := trodAll_nil r2
  obtain rfl : args = #[v0, v1, v2] := by cases args; simp_all
  obtain ⟨rfl, rfl⟩ := trodVars_none hV
  have k0 := h0
  obtain ⟨a, rfl⟩ := open_link (hval 0 23 v0 rfl rfl) h0
  have k1 := h1
  obtain ⟨nak, rfl, rfl, rfl⟩ := open_bool Try.underlying4 (hval 1 4 v1 rfl rfl) h1
  have k2 := h2
  obtain ⟨A2, n2, c2, os, rfl, g2, e2, b2, r_2, z2⟩ := open_opts (hval 2 25 v2 rfl rfl) h2 (fun m hm => by
    have := List.all_eq_true.1 hsz m (DataW.weights_mem_each (j := 2) (t := 25) rfl rfl m hm)
    simpa using this)
  clear hA0 hval0
  refine (walk_policyOnce a nak A2 n2 c2 os W r_2 g2 b2 z2).mono fun e W' ⟨he, bel⟩ => ?_
  subst he
  exact ⟨_, rfl, _, _, _, [], _, [], hW', trodAll_cons_mk (shut_bool Try.underlying4 _) trodAll_mk0, (trodAll_cons_mk (Below.trod laid_out (by kernel_rfl) (of_decide_eq_true (by kernel_rfl)) k0 bel (trod_below k0)) (trodAll_cons_mk (Below.trod laid_out (by kernel_rfl) (of_decide_eq_true (by kernel_rfl)) k1 bel (trod_below k1)) (trodAll_cons_mk (Below.trod laid_out (by kernel_rfl) (of_decide_eq_true (by kernel_rfl)) k2 bel (trod_below k2)) trodAll_mk0))), rfl, bel.frame _, fun h => by cases h⟩

theorem policyOnce_holds : Rows.PolicyOnceSaid :=
  OpenClaim.holds_of_wide 8 Try.f8 rfl rfl rfl rfl rfl rfl rfl ⟨rfl, rfl, rfl, rfl, rfl⟩ rfl rfl rfl rfl rfl (by kernel_rfl) Try.func8 (by kernel_rfl)
    (of_decide_eq_true (by kernel_rfl)) (by unfold Func.isWrapper; first | (rw [if_pos (by decide +kernel)]; kernel_rfl) | (rw [if_neg (by decide +kernel)]; exact ⟨rfl, rfl⟩))
    (fun os started H enc _ => policyOnce_lifted os started H enc)
#print axioms policyOnce_holds
end Go.Proofs.Ythlfghheciamcaa
