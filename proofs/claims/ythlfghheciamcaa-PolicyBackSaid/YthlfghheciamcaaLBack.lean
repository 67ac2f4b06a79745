/-
  PolicyBack: what a link asks for is taken as it; a side that would ask for the like takes it, but for its own magic: the law answers true at every two links.
  Conditions: none.
-/
import Derived.Test.YthlfghheciamcaaM
import Derived.Test.YthlfghheciamcaaT2
namespace Go.Proofs.Ythlfghheciamcaa
open Go.RowKit Go.Joins Go.ChangeShapes Go.WideShapes Go.Deep
open Go.ChangeMaps (open_string shut_string)
set_option linter.unusedVariables false

set_option maxRecDepth 100000 in
set_option maxHeartbeats 4000000 in
theorem walk_policyBack (a b : LinkD) (w : World) : Calls Try.prog 3 #[.agg #[.int .i64 a.mru, .int .i64 a.magic, .int .i64 a.mrru, .bool a.short, .string a.disc, .int .i64 a.num], .agg #[.int .i64 b.mru, .int .i64 b.magic, .int .i64 b.mrru, .bool b.short, .string b.disc, .int .i64 b.num]] w fun e w' => e = .returned (.bool true) ∧ Below w.heap.size w w' := by
  go_enter Try.func3, Try.ntmps3
  go_wp2_with fail
  have hla := Lib.hid ((LinkAt.new w a).alloc (.cells b.cells 23))
  have hlb : LinkAt ((w.alloc (.cells a.cells 23)).alloc (.cells b.cells 23)) (w.heap.size + 1) b := by
    have := LinkAt.new (w.alloc (.cells a.cells 23)) b
    simp only [World.size_alloc] at this
    exact this
  have HLB := Lib.hid hlb
  have hb := Lib.hid (((Below.refl w.heap.size w).alloc (Nat.le_refl _) (.cells a.cells 23)).alloc (by simp) (.cells b.cells 23))
  clear hlb
  refine (awake_any _).mono ?_
  rintro e w1 ⟨rfl, hk1⟩
  have ha1 := Lib.hid (hla.out.below hk1)
  have hb1 := Lib.hid (HLB.out.below hk1)
  have hw1 := Lib.hid (below_trans' hb.out hb.out.size hk1)
  clear hla HLB hb hk1
  obtain ⟨c0, c1, c2, c3, c4, c5⟩ := ha1.out.cells
  rcases hma : a.may with _ | _
  · go_wp2_with fail
    refine (ask_no a _ hma).mono ?_
    rintro e w2 ⟨rfl, hk2⟩
    have hw2 := Lib.hid (below_trans' hw1.out hw1.out.size hk2.below)
    clear hk2
    go_wp2_with (go_at_call 11; refine (num_any _ _).mono ?_; rintro e w' ⟨rfl, rfl⟩)
    go_ret
    exact ⟨rfl, hw2.out⟩
  · go_wp2_with fail
    refine (ask_yes a _ hma).mono ?_
    rintro e w2 ⟨v, rfl, hk2⟩
    have ha2 := Lib.hid (ha1.out.below hk2.below)
    have hb2 := Lib.hid (hb1.out.below hk2.below)
    have hw2 := Lib.hid (below_trans' hw1.out hw1.out.size hk2.below)
    have hown := hk2.own
    obtain ⟨A, cp, rfl, hncp, hcm, _⟩ := own_shape hown
    have OWN := Lib.hid hown
    clear hk2 hown c0 c1 c2 c3 c4 c5 ha1 hb1 hw1
    obtain ⟨a0, a1, a2, a3, a4, a5⟩ := ha2.out.cells
    obtain ⟨b0, b1, b2, b3, b4, b5⟩ := hb2.out.cells
    have hlen : a.ask.length ≤ 6 := by
      have e : a.ask = a.askL kindsL := by simp [LinkD.ask, hma]
      rw [e]; exact askL_le a kindsL
    have hj := taken_any a.ask A a.ask.length cp w2 (Reads.of_own OWN.out) rfl (by omega) hncp (fun o ho => by have := ask_small hma ho; omega)
    rw [taken_ask hma] at hj
    have HJ := Lib.hid hj
    clear hj
    go_wp2_with (go_at_call 11; refine (num_any _ _).mono ?_; rintro e w' ⟨rfl, rfl⟩)
    refine HJ.out.mono ?_
    rintro e w3 ⟨rfl, hk3⟩
    have ha3 := Lib.hid ((ha2.out.below hk3).alloc (.cells a.cells 23))
    have hb3 := Lib.hid ((hb2.out.below hk3).alloc (.cells a.cells 23))
    have ht3 := Lib.hid (LinkAt.new w3 a)
    have hw3 := Lib.hid ((below_trans' hw2.out hw2.out.size hk3).alloc (Nat.le_trans hw2.out.size hk3.size) (.cells a.cells 23))
    have OWN3 := Lib.hid ((own_below OWN.out hk3).alloc (.cells a.cells 23))
    have hsa : w.heap.size < w3.heap.size := Nat.lt_of_lt_of_le ha2.out.lt hk3.size
    have hsb : w.heap.size + 1 < w3.heap.size := Nat.lt_of_lt_of_le hb2.out.lt hk3.size
    have x0 := (ha2.out.below hk3).cells
    have y0 := (hb2.out.below hk3).cells
    obtain ⟨a0, a1, a2, a3, a4, a5⟩ := x0
    obtain ⟨b0, b1, b2, b3, b4, b5⟩ := y0
    have hne : ∀ w, (binOp .neq 23 (.agg #[.int .i64 a.mru, .int .i64 a.magic, .int .i64 a.mrru, .bool a.short, .string a.disc, .int .i64 a.num]) (.agg #[.int .i64 a.mru, .int .i64 a.magic, .int .i64 a.mrru, .bool a.short, .string a.disc, .int .i64 a.num])).run Try.prog w = .ok (.bool false) w := fun w => by
      have := link_neq a a w
      rw [LinkD.eqB_iff] at this
      simpa using this
    clear hk3 ha2 hb2 hw2 OWN HJ
    simp only [LinkD.cells]
    go_wp2_with (go_at_call 11; refine (num_any _ _).mono ?_; rintro e w' ⟨rfl, rfl⟩)
    clear hne a0 a1 a2 a3 a4 a5 b0 b1 b2 b3 b4 b5
    rcases hmb : b.may with _ | _
    · refine (judge_no b A a.ask.length cp a.ask _ hmb).mono ?_
      rintro e w4 ⟨rfl, hk4⟩
      obtain ⟨b0, b1, b2, b3, b4, b5⟩ := (hb3.out.below hk4.below).cells
      have hw4 := Lib.hid (below_trans' hw3.out hw3.out.size hk4.below)
      clear hk4
      go_wp2_with (first | (go_at_call 11; refine (num_any _ _).mono ?_; rintro e w' ⟨rfl, rfl⟩) | (go_at_call 14; refine (may_ref b _).mono ?_; rintro e w5 ⟨rfl, hk5⟩))
      go_ret
      exact ⟨ret_bool (by simp [hmb]), below_trans' hw4.out hw4.out.size hk5⟩
    · have hj := judge_any b A a.ask.length cp a.ask (w3.alloc (.cells a.cells 23)) (Reads.of_own OWN3.out) rfl (by omega) hncp
      have HE := Lib.hid (judge_ask hmb hma)
      have HJ := Lib.hid hj
      clear hj
      refine HJ.out.mono ?_
      rintro e w4 ⟨v, rfl, hk4⟩
      obtain ⟨a0, a1, a2, a3, a4, a5⟩ := (ha3.out.below hk4.below).cells
      obtain ⟨b0, b1, b2, b3, b4, b5⟩ := (hb3.out.below hk4.below).cells
      have hw4 := Lib.hid (below_trans' hw3.out hw3.out.size hk4.below)
      have hown := hk4.own
      have OWN4 := Lib.hid (own_below OWN3.out hk4.below)
      have hz4 := hk4.below.size
      clear hk4 HJ ha3 hb3 ht3 hw3 OWN3
      rcases hsh : (a.short && !b.short) with _ | _
      · rcases hmg : magicB b a with _ | _
        · have hE : judgeD b a.ask = (0, a.ask, 0) := by rw [HE.out, hsh, hmg]; rfl
          rw [hE] at hown ⊢
          obtain ⟨B, cq, rfl, hncq, hcq, _⟩ := own_shape hown
          have hsame := same_any a.ask a.ask B A a.ask.length a.ask.length cq cp w4 (Reads.of_own hown) rfl (by omega) (Reads.of_own OWN4.out) rfl (by omega)
          have HSAME := Lib.hid hsame
          clear hE hown hsame HE
          rcases has : a.short with _ | _
          · rcases ham : (a.magic != 0) with _ | _
            · go_wp2_with (first | (go_at_call 11; refine (num_any _ _).mono ?_; rintro e w' ⟨rfl, rfl⟩) | (go_at_call 15; refine HSAME.out.mono ?_; rintro e w5 ⟨rfl, hk5⟩))
              go_ret
              exact ⟨ret_bool (by simp), below_trans' hw4.out hw4.out.size hk5⟩
            · have hqq : (a.magic == b.magic) = false := by unfold magicB at hmg; rw [ham] at hmg; simpa using hmg
              go_wp2_with (first | (go_at_call 11; refine (num_any _ _).mono ?_; rintro e w' ⟨rfl, rfl⟩) | (go_at_call 15; refine HSAME.out.mono ?_; rintro e w5 ⟨rfl, hk5⟩))
              go_ret
              exact ⟨ret_bool (by simp), below_trans' hw4.out hw4.out.size hk5⟩
          · have hbs : b.short = true := by rw [has] at hsh; simpa using hsh
            rcases ham : (a.magic != 0) with _ | _
            · go_wp2_with (first | (go_at_call 11; refine (num_any _ _).mono ?_; rintro e w' ⟨rfl, rfl⟩) | (go_at_call 15; refine HSAME.out.mono ?_; rintro e w5 ⟨rfl, hk5⟩))
              go_ret
              exact ⟨ret_bool (by simp), below_trans' hw4.out hw4.out.size hk5⟩
            · have hqq : (a.magic == b.magic) = false := by unfold magicB at hmg; rw [ham] at hmg; simpa using hmg
              go_wp2_with (first | (go_at_call 11; refine (num_any _ _).mono ?_; rintro e w' ⟨rfl, rfl⟩) | (go_at_call 15; refine HSAME.out.mono ?_; rintro e w5 ⟨rfl, hk5⟩))
              go_ret
              exact ⟨ret_bool (by simp), below_trans' hw4.out hw4.out.size hk5⟩
        · have hE : judgeD b a.ask = (1, [⟨5, numB (otherMagic b) 4⟩], 0) := by rw [HE.out, hsh, hmg]; rfl
          rw [hE] at hown ⊢
          obtain ⟨g, cq, rfl, _, _, hncq, hcq, hcell⟩ := own_some hown (by simp)
          have d0 : w4.cell? ⟨g, 0, none⟩ = some (.int .i64 5) := hcell 0 _ rfl
          have ham : (a.magic != 0) = true := (Bool.and_eq_true_iff.1 hmg).1
          have hqq : (a.magic == b.magic) = true := (Bool.and_eq_true_iff.1 hmg).2
          have hncq1 : 1 ≤ cq := hncq
          clear hE hown HE hcell hncq
          rcases has : a.short with _ | _
          · go_wp2_with (go_at_call 11; refine (num_any _ _).mono ?_; rintro e w' ⟨rfl, rfl⟩)
            go_ret
            exact ⟨rfl, hw4.out⟩
          · have hbs : b.short = true := by rw [has] at hsh; simpa using hsh
            go_wp2_with (go_at_call 11; refine (num_any _ _).mono ?_; rintro e w' ⟨rfl, rfl⟩)
            go_ret
            exact ⟨rfl, hw4.out⟩
      · have hE : judgeD b a.ask = (2, [⟨18, ⟨#[]⟩⟩], 0) := by rw [HE.out, hsh]; rfl
        rw [hE] at hown ⊢
        obtain ⟨g, cq, rfl, _, _, hncq, hcq, hcell⟩ := own_some hown (by simp)
        have d0 : w4.cell? ⟨g, 0, none⟩ = some (.int .i64 18) := hcell 0 _ rfl
        have has : a.short = true := (Bool.and_eq_true_iff.1 hsh).1
        have hbs : b.short = false := by have := (Bool.and_eq_true_iff.1 hsh).2; simpa using this
        clear hE hown HE hcell hncq
        go_wp2_with (go_at_call 11; refine (num_any _ _).mono ?_; rintro e w' ⟨rfl, rfl⟩)
        go_ret
        exact ⟨rfl, hw4.out⟩

set_option maxRecDepth 100000 in
theorem policyBack_lifted (os : Os) (started : os.Started) (H : Type) (enc : TypeId × Value → H) :
    ReturnsInHanded {} Try.checked os 3 .any (Rows.policyBackSpec.pre6 enc Try.prog Try.f3 Rows.policyBackRow.domain false) (Rows.policyBackSpec.post enc Try.prog Try.f3 false true false false) := by
  refine returnsInHanded_of_change (C := Try.checked) own_knob started (by kernel_rfl) Try.func3
    (ChangeSpec.witness6 (enc := enc) (C := Try.checked) false ⟨#[], #[.agg #[.int .i64 0, .int .i64 0, .int .i64 0, .bool false, .string ⟨#[]⟩, .int .i64 0], .agg #[.int .i64 0, .int .i64 0, .int .i64 0, .bool false, .string ⟨#[]⟩, .int .i64 0]], []⟩ 8 (by kernel_rfl) (by kernel_rfl) (by kernel_rfl) (by kernel_rfl)) ?_
  intro W base args ds gs before hval0 hW hcnd _
  have hval : ∀ (j : Nat) t v, Try.f3.params[j]? = some t → args[j]? = some v → Value.okWide Try.prog W .any base t v := hval0
  have hW' := hW
  obtain ⟨p, q, hA0, hV, rfl, hfz, hnd⟩ := hW
  have hA : DataW.TrodAll enc Try.prog W 0 (fun _ => true) true Try.f3.params.toList args.toList ds p := hA0
  rw [Try.params3] at hA hval
  obtain ⟨v0, vs0, d0, ds0, p0, q0, hargs, rfl, rfl, h0, r0⟩ := trodAll_cons hA
  obtain ⟨v1, vs1, d1, ds1, p1, q1, rfl, rfl, rfl, h1, r1⟩ := trodAll_cons r0
  obtain ⟨rfl, rfl, rfl⟩ := trodAll_nil r1
  obtain rfl : args = #[v0, v1] := by cases args; simp_all
  obtain ⟨rfl, rfl⟩ := trodVars_none hV
  have k0 := h0
  obtain ⟨a, rfl⟩ := open_link (hval 0 23 v0 rfl rfl) h0
  have k1 := h1
  obtain ⟨b, rfl⟩ := open_link (hval 1 23 v1 rfl rfl) h1
  clear hA0 hval0
  refine (walk_policyBack a b W).mono fun e W' ⟨he, bel⟩ => ?_
  subst he
  exact ⟨_, rfl, _, _, _, [], _, [], hW', trodAll_cons_mk (shut_bool Try.underlying4 _) trodAll_mk0, (trodAll_cons_mk (Below.trod laid_out (by kernel_rfl) (of_decide_eq_true (by kernel_rfl)) k0 bel (trod_below k0)) (trodAll_cons_mk (Below.trod laid_out (by kernel_rfl) (of_decide_eq_true (by kernel_rfl)) k1 bel (trod_below k1)) trodAll_mk0)), rfl, bel.frame _, fun h => by cases h⟩

theorem policyBack_holds : Rows.PolicyBackSaid :=
  OpenClaim.holds_of_wide 3 Try.f3 rfl rfl rfl rfl rfl rfl rfl ⟨rfl, rfl, rfl, rfl, rfl⟩ rfl rfl rfl rfl rfl (by kernel_rfl) Try.func3 (by kernel_rfl)
    (of_decide_eq_true (by kernel_rfl)) (by unfold Func.isWrapper; first | (rw [if_pos (by decide +kernel)]; kernel_rfl) | (rw [if_neg (by decide +kernel)]; exact ⟨rfl, rfl⟩))
    (fun os started H enc _ => policyBack_lifted os started H enc)
#print axioms policyBack_holds
end Go.Proofs.Ythlfghheciamcaa
