/-
  PolicyLearns: what was rejected is not asked for again; what was naked is asked for as told: the law answers true at every two links.
  Conditions: none.
-/
import Derived.Test.YthlfghheciamcaaM
import Derived.Test.YthlfghheciamcaaT2
namespace Go.Proofs.Ythlfghheciamcaa
open Go.RowKit Go.Joins Go.ChangeShapes Go.WideShapes Go.Deep
open Go.ChangeMaps (open_string shut_string)
set_option linter.unusedVariables false

def rank (b l : LinkD) : Nat := (if l.short && !b.short then 1 else 0) + (if magicB b l then 1 else 0)
theorem rank_le (b l : LinkD) : rank b l ≤ 2 := by unfold rank; split <;> split <;> omega

theorem learns_step {b l : LinkD} (ho : b.may = true) (hl : l.may = true) :
    judgeD b l.ask = (0, l.ask, 0) ∨
    ∃ (v code : Int) (rs : List OptD) (l' : LinkD), (v = 2 ∧ code = 4 ∨ v = 1 ∧ code = 3) ∧ judgeD b l.ask = (v, rs, 0) ∧ learnD l code rs = (l', 0) ∧ l'.may = true ∧ l' ≠ l ∧ rank b l' < rank b l ∧ rs.length = 1 ∧ ∀ o ∈ rs, o.data.size ≤ 253 := by
  have hj := judge_ask ho hl
  rcases hs : (l.short && !b.short) with _ | _
  · rcases hm : magicB b l with _ | _
    · rw [hs, hm] at hj
      exact .inl hj
    · rw [hs, hm] at hj
      refine .inr ⟨1, 3, _, _, .inr ⟨rfl, rfl⟩, hj, learn_magic ho hl hm, may_magic hl (otherMagic_range ho), ?_, ?_, rfl, ?_⟩
      · intro e
        have e2 := congrArg LinkD.magic e
        have e3 : l.magic = b.magic := by have := (Bool.and_eq_true_iff.1 hm).2; simpa using this
        exact otherMagic_ne ho (e2.trans e3)
      · have h1 : magicB b { l with magic := otherMagic b } = false := by
          have : (otherMagic b == b.magic) = false := by simpa using otherMagic_ne ho
          show (otherMagic b != 0 && otherMagic b == b.magic) = false
          rw [this, Bool.and_false]
        unfold rank
        rw [hm, h1]
        show (if (l.short && !b.short) = true then 1 else 0) + 0 < _
        rw [if_pos rfl, Nat.add_zero]
        exact Nat.lt_succ_self _
      · intro o h
        have : o = ⟨5, numB (otherMagic b) 4⟩ := by simpa using h
        subst this
        show (numL (otherMagic b) 4).toArray.size ≤ 253
        simp [numL]
  · rw [hs] at hj
    have h1 : l.short = true := (Bool.and_eq_true_iff.1 hs).1
    refine .inr ⟨2, 4, _, _, .inl ⟨rfl, rfl⟩, hj, learn_short hl h1, may_short hl, ?_, ?_, rfl, ?_⟩
    · intro e
      have e2 := congrArg LinkD.short e
      rw [h1] at e2
      cases e2
    · unfold rank
      rw [hs]
      show 0 + (if magicB b l = true then 1 else 0) < _
      rw [if_pos rfl]
      omega
    · intro o h
      have : o = ⟨18, ⟨#[]⟩⟩ := by simpa using h
      rw [this]
      decide

def store6 (w : World) (b : Nat) (l : LinkD) : World := (((((w.setCell ⟨b, 0, none⟩ (.int .i64 l.mru)).setCell ⟨b, 1, none⟩ (.int .i64 l.magic)).setCell ⟨b, 2, none⟩ (.int .i64 l.mrru)).setCell ⟨b, 3, none⟩ (.bool l.short)).setCell ⟨b, 4, none⟩ (.string l.disc)).setCell ⟨b, 5, none⟩ (.int .i64 l.num)
theorem LinkAt.store {w : World} {b : Nat} {l : LinkD} (h : LinkAt w b l) (l' : LinkD) : LinkAt (store6 w b l') b l' :=
  Blk.set_ (Blk.set_ (Blk.set_ (Blk.set_ (Blk.set_ (Blk.set_ h 0 (.int .i64 l'.mru)) 1 (.int .i64 l'.magic)) 2 (.int .i64 l'.mrru)) 3 (.bool l'.short)) 4 (.string l'.disc)) 5 (.int .i64 l'.num)
theorem LinkAt.far6 {w : World} {b g : Nat} {l : LinkD} (h : LinkAt w g l) (hne : g ≠ b) (l' : LinkD) : LinkAt (store6 w b l') g l :=
  Blk.far (Blk.far (Blk.far (Blk.far (Blk.far (Blk.far h (p := ⟨b, 0, none⟩) hne _) (p := ⟨b, 1, none⟩) hne _) (p := ⟨b, 2, none⟩) hne _) (p := ⟨b, 3, none⟩) hne _) (p := ⟨b, 4, none⟩) hne _) (p := ⟨b, 5, none⟩) hne _
theorem store6_below {B b : Nat} {w W : World} (h : Below B w W) (hb : B ≤ b) (l' : LinkD) : Below B w (store6 W b l') := below_six h hb _ _ _ _ _ _
theorem store6_size (w : World) (b : Nat) (l' : LinkD) : (store6 w b l').heap.size = w.heap.size := by simp [store6, World.setCell]

set_option maxRecDepth 100000 in
set_option maxHeartbeats 8000000 in
theorem walk_policyLearns (a b : LinkD) (w : World) : Calls Try.prog 4 #[.agg #[.int .i64 a.mru, .int .i64 a.magic, .int .i64 a.mrru, .bool a.short, .string a.disc, .int .i64 a.num], .agg #[.int .i64 b.mru, .int .i64 b.magic, .int .i64 b.mrru, .bool b.short, .string b.disc, .int .i64 b.num]] w fun e w' => e = .returned (.bool true) ∧ Below w.heap.size w w' := by
  go_enter Try.func4, Try.ntmps4
  go_wp2_with fail
  have hla := Lib.hid ((LinkAt.new w a).alloc (.cells b.cells 23))
  have hlb : LinkAt ((w.alloc (.cells a.cells 23)).alloc (.cells b.cells 23)) (w.heap.size + 1) b := by
    have := LinkAt.new (w.alloc (.cells a.cells 23)) b
    simp only [World.size_alloc] at this
    exact this
  have HLB := Lib.hid hlb
  have hb := Lib.hid (((Below.refl w.heap.size w).alloc (Nat.le_refl _) (.cells a.cells 23)).alloc (by simp) (.cells b.cells 23))
  clear hlb
  refine (awake_any _).mono ?_
  rintro e w1 ⟨rfl, hk1⟩
  have ha1 := Lib.hid (hla.out.below hk1)
  have hb1 := Lib.hid (HLB.out.below hk1)
  have hw1 := Lib.hid (below_trans' hb.out hb.out.size hk1)
  clear hla HLB hb hk1
  obtain ⟨c0, c1, c2, c3, c4, c5⟩ := ha1.out.cells
  rcases hma : a.may with _ | _
  · go_wp2_with fail
    refine (ask_no a _ hma).mono ?_
    rintro e w2 ⟨rfl, hk2⟩
    have hw2 := Lib.hid (below_trans' hw1.out hw1.out.size hk2.below)
    clear hk2
    go_wp2_with (go_at_call 11; refine (num_any _ _).mono ?_; rintro e w' ⟨rfl, rfl⟩)
    go_ret
    exact ⟨rfl, hw2.out⟩
  · go_wp2_with fail
    refine (ask_yes a _ hma).mono ?_
    rintro e w2 ⟨v, rfl, hk2⟩
    have ha2 := Lib.hid (ha1.out.below hk2.below)
    have hb2 := Lib.hid (hb1.out.below hk2.below)
    have hw2 := Lib.hid (below_trans' hw1.out hw1.out.size hk2.below)
    have OWN := Lib.hid (own_base hk2.own hw1.out.size)
    clear hk2 c0 c1 c2 c3 c4 c5 ha1 hb1 hw1
    obtain ⟨b0, b1, b2, b3, b4, b5⟩ := hb2.out.cells
    rcases hmb : b.may with _ | _
    · go_wp2_with (first | (go_at_call 11; refine (num_any _ _).mono ?_; rintro e w' ⟨rfl, rfl⟩) | (go_at_call 14; refine (may_ref b _).mono ?_; rintro e w3 ⟨rfl, hk3⟩))
      go_ret
      exact ⟨rfl, below_trans' hw2.out hw2.out.size hk3⟩
    · go_wp2_with (first | (go_at_call 11; refine (num_any _ _).mono ?_; rintro e w' ⟨rfl, rfl⟩) | (go_at_call 14; refine (may_ref b _).mono ?_; rintro e w3 ⟨rfl, hk3⟩))
      have ha3 := Lib.hid (ha2.out.below hk3)
      have hb3 := Lib.hid (hb2.out.below hk3)
      have hw3 := Lib.hid (below_trans' hw2.out hw2.out.size hk3)
      have OWN3 := Lib.hid (own_below OWN.out hk3)
      clear b0 b1 b2 b3 b4 b5 ha2 hb2 hw2 OWN hk3
      go_loopw [5, 7, 8, 9, 10, 11, 12, 13, 14, 15] (fun v i _ _ _ _ _ _ _ _ wr => ∃ (m : Nat) (l : LinkD), i = .int .i64 m ∧ l.may = true ∧ m + rank b l ≤ 2 ∧ LinkAt wr w.heap.size l ∧ LinkAt wr (w.heap.size + 1) b ∧ wr.ownsRow w.heap.size 36 2 v l.ask.length (optCells l.ask) ∧ Below w.heap.size w wr)
        (fun _ i _ _ _ _ _ _ _ _ _ => 4 - (intOf i).toNat)
      case atStart => exact ⟨0, a, rfl, hma, by have := rank_le b a; omega, ha3.out, hb3.out, OWN3.out, hw3.out⟩
      case round =>
        obtain ⟨m, l, rfl, hml, hr, hl, hb, ho, hw⟩ := hrel
        obtain ⟨A, cp, rfl, hncp, hcm, _⟩ := own_shape ho
        have hlen : l.ask.length ≤ 6 := by
          have e : l.ask = l.askL kindsL := by simp [LinkD.ask, hml]
          rw [e]; exact askL_le l kindsL
        have HL := Lib.hid hl
        have HB := Lib.hid hb
        have HO := Lib.hid ho
        have HW := Lib.hid hw
        have hz := hw.size
        have hm2 : m ≤ 2 := by omega
        obtain ⟨b0, b1, b2, b3, b4, b5⟩ := hb.cells
        clear ha3 hb3 OWN3 hw3 hl hb ho hw
        have hj := judge_any b A l.ask.length cp l.ask wr (Reads.of_own HO.out) rfl (by omega) hncp
        rcases learns_step hmb hml with hE | ⟨vd, code, rs, l', hvc, hE, hlr, hml', hne, hrk, hrs, hsz⟩
        · rw [hE] at hj
          have HJ := Lib.hid hj
          clear hj
          go_wp2_with (first | (go_at_call 11; refine (num_any _ _).mono ?_; rintro e w' ⟨rfl, rfl⟩) | (go_at_call 13; refine HJ.out.mono ?_; rintro e w4 ⟨v4, rfl, hk4⟩; have hw4 := Lib.hid (below_trans' HW.out hz hk4.below); clear hk4))
          go_ret
          exact ⟨ret_bool (by simp; omega), hw4.out⟩
        · rw [hE] at hj
          have HJ := Lib.hid hj
          have HE := Lib.hid hE
          have HLR := Lib.hid hlr
          have hql : ∀ w, (binOp .eql 23 (.agg #[.int .i64 l'.mru, .int .i64 l'.magic, .int .i64 l'.mrru, .bool l'.short, .string l'.disc, .int .i64 l'.num]) (.agg #[.int .i64 l.mru, .int .i64 l.magic, .int .i64 l.mrru, .bool l.short, .string l.disc, .int .i64 l.num])).run Try.prog w = .ok (.bool false) w := fun w => by
            have := link_eql l' l w
            rw [LinkD.eqB_iff, decide_eq_false hne] at this
            exact this
          have HQ := Lib.hid hql
          clear hj hE hlr hql hne
          rcases hvc with ⟨rfl, rfl⟩ | ⟨rfl, rfl⟩
          · go_wp2_with (first | (go_at_call 11; refine (num_any _ _).mono ?_; rintro e w' ⟨rfl, rfl⟩) | (go_at_call 13; refine HJ.out.mono ?_; rintro e w4 ⟨v4, rfl, hk4⟩; have hl4 := Lib.hid (HL.out.below hk4.below); have hb4 := Lib.hid (HB.out.below hk4.below); have hw4 := Lib.hid (below_trans' HW.out hz hk4.below); have hown4 := hk4.own; rw [HE.out] at hown4; have OWN4 := Lib.hid hown4; clear hk4 hown4; obtain ⟨a0, a1, a2, a3, a4, a5⟩ := hl4.out.cells))
            obtain ⟨B, cq, rfl, hncq, hcq, _⟩ := own_shape OWN4.out
            have hlc := learn_call l 4 B rs.length cq rs w4 (Reads.of_own OWN4.out) rfl (by omega) (fun o ho => by have := hsz o ho; omega)
            rw [HLR.out] at hlc
            refine hlc.mono ?_
            clear hlc
            rintro e w5 ⟨rfl, hk5⟩
            have hl5 := Lib.hid (hl4.out.below hk5)
            have hb5 := Lib.hid (hb4.out.below hk5)
            have hw5 := Lib.hid (below_trans' hw4.out hw4.out.size hk5)
            have hlt5 := hl5.out.lt
            obtain ⟨d0, d1, d2, d3, d4, d5⟩ := hl5.out.cells
            have df := Blk.frozen hl5.out
            have hqq := HQ.out
            clear hk5 hl4 hb4 hw4 OWN4 a0 a1 a2 a3 a4 a5 b0 b1 b2 b3 b4 b5 HJ HE HLR HQ
            simp only [LinkD.cells]
            go_wp2_with (first | (go_at_call 11; refine (num_any _ _).mono ?_; rintro e w' ⟨rfl, rfl⟩) | (go_at_call 10; refine (ask_yes l' _ hml').mono ?_; rintro e w6 ⟨v6, rfl, hk6⟩))
            have hs6 : Below w.heap.size w ((store6 w5 w.heap.size l').alloc (.cells l'.cells 23)) := (store6_below hw5.out (Nat.le_refl _) l').alloc (by rw [store6_size]; exact hw5.out.size) _
            have hl6 : LinkAt w6 w.heap.size l' := ((hl5.out.store l').alloc (.cells l'.cells 23)).below hk6.below
            have hb6 : LinkAt w6 (w.heap.size + 1) b := ((hb5.out.far6 (by omega) l').alloc (.cells l'.cells 23)).below hk6.below
            have hw6 := below_trans' hs6 hs6.size hk6.below
            have ho6 := own_base hk6.own hs6.size
            clear hk6 d0 d1 d2 d3 d4 d5 df hqq hs6
            go_roundw
            case rel => exact ⟨m + 1, l', by go_num, hml', by omega, hl6, hb6, ho6, hw6⟩
            case measure => simp [intOf]; omega
          · go_wp2_with (first | (go_at_call 11; refine (num_any _ _).mono ?_; rintro e w' ⟨rfl, rfl⟩) | (go_at_call 13; refine HJ.out.mono ?_; rintro e w4 ⟨v4, rfl, hk4⟩; have hl4 := Lib.hid (HL.out.below hk4.below); have hb4 := Lib.hid (HB.out.below hk4.below); have hw4 := Lib.hid (below_trans' HW.out hz hk4.below); have hown4 := hk4.own; rw [HE.out] at hown4; have OWN4 := Lib.hid hown4; clear hk4 hown4; obtain ⟨a0, a1, a2, a3, a4, a5⟩ := hl4.out.cells))
            obtain ⟨B, cq, rfl, hncq, hcq, _⟩ := own_shape OWN4.out
            have hlc := learn_call l 3 B rs.length cq rs w4 (Reads.of_own OWN4.out) rfl (by omega) (fun o ho => by have := hsz o ho; omega)
            rw [HLR.out] at hlc
            refine hlc.mono ?_
            clear hlc
            rintro e w5 ⟨rfl, hk5⟩
            have hl5 := Lib.hid (hl4.out.below hk5)
            have hb5 := Lib.hid (hb4.out.below hk5)
            have hw5 := Lib.hid (below_trans' hw4.out hw4.out.size hk5)
            have hlt5 := hl5.out.lt
            obtain ⟨d0, d1, d2, d3, d4, d5⟩ := hl5.out.cells
            have df := Blk.frozen hl5.out
            have hqq := HQ.out
            clear hk5 hl4 hb4 hw4 OWN4 a0 a1 a2 a3 a4 a5 b0 b1 b2 b3 b4 b5 HJ HE HLR HQ
            simp only [LinkD.cells]
            go_wp2_with (first | (go_at_call 11; refine (num_any _ _).mono ?_; rintro e w' ⟨rfl, rfl⟩) | (go_at_call 10; refine (ask_yes l' _ hml').mono ?_; rintro e w6 ⟨v6, rfl, hk6⟩))
            have hs6 : Below w.heap.size w ((store6 w5 w.heap.size l').alloc (.cells l'.cells 23)) := (store6_below hw5.out (Nat.le_refl _) l').alloc (by rw [store6_size]; exact hw5.out.size) _
            have hl6 : LinkAt w6 w.heap.size l' := ((hl5.out.store l').alloc (.cells l'.cells 23)).below hk6.below
            have hb6 : LinkAt w6 (w.heap.size + 1) b := ((hb5.out.far6 (by omega) l').alloc (.cells l'.cells 23)).below hk6.below
            have hw6 := below_trans' hs6 hs6.size hk6.below
            have ho6 := own_base hk6.own hs6.size
            clear hk6 d0 d1 d2 d3 d4 d5 df hqq hs6
            go_roundw
            case rel => exact ⟨m + 1, l', by go_num, hml', by omega, hl6, hb6, ho6, hw6⟩
            case measure => simp [intOf]; omega

set_option maxRecDepth 100000 in
theorem policyLearns_lifted (os : Os) (started : os.Started) (H : Type) (enc : TypeId × Value → H) :
    ReturnsInHanded {} Try.checked os 4 .any (Rows.policyLearnsSpec.pre6 enc Try.prog Try.f4 Rows.policyLearnsRow.domain false) (Rows.policyLearnsSpec.post enc Try.prog Try.f4 false true false false) := by
  refine returnsInHanded_of_change (C := Try.checked) own_knob started (by kernel_rfl) Try.func4
    (ChangeSpec.witness6 (enc := enc) (C := Try.checked) false ⟨#[], #[.agg #[.int .i64 0, .int .i64 0, .int .i64 0, .bool false, .string ⟨#[]⟩, .int .i64 0], .agg #[.int .i64 0, .int .i64 0, .int .i64 0, .bool false, .string ⟨#[]⟩, .int .i64 0]], []⟩ 8 (by kernel_rfl) (by kernel_rfl) (by kernel_rfl) (by kernel_rfl)) ?_
  intro W base args ds gs before hval0 hW hcnd _
  have hval : ∀ (j : Nat) t v, Try.f4.params[j]? = some t → args[j]? = some v → Value.okWide Try.prog W .any base t v := hval0
  have hW' := hW
  obtain ⟨p, q, hA0, hV, rfl, hfz, hnd⟩ := hW
  have hA : DataW.TrodAll enc Try.prog W 0 (fun _ => true) true Try.f4.params.toList args.toList ds p := hA0
  rw [Try.params4] at hA hval
  obtain ⟨v0, vs0, d0, ds0, p0, q0, hargs, rfl, rfl, h0, r0⟩ := trodAll_cons hA
  obtain ⟨v1, vs1, d1, ds1, p1, q1, rfl, rfl, rfl, h1, r1⟩ := trodAll_cons r0
  obtain ⟨rfl, rfl, rfl⟩ := trodAll_nil r1
  obtain rfl : args = #[v0, v1] := by cases args; simp_all
  obtain ⟨rfl, rfl⟩ := trodVars_none hV
  have k0 := h0
  obtain ⟨a, rfl⟩ := open_link (hval 0 23 v0 rfl rfl) h0
  have k1 := h1
  obtain ⟨b, rfl⟩ := open_link (hval 1 23 v1 rfl rfl) h1
  clear hA0 hval0
  refine (walk_policyLearns a b W).mono fun e W' ⟨he, bel⟩ => ?_
  subst he
  exact ⟨_, rfl, _, _, _, [], _, [], hW', trodAll_cons_mk (shut_bool Try.underlying4 _) trodAll_mk0, (trodAll_cons_mk (Below.trod laid_out (by kernel_rfl) (of_decide_eq_true (by kernel_rfl)) k0 bel (trod_below k0)) (trodAll_cons_mk (Below.trod laid_out (by kernel_rfl) (of_decide_eq_true (by kernel_rfl)) k1 bel (trod_below k1)) trodAll_mk0)), rfl, bel.frame _, fun h => by cases h⟩

theorem policyLearns_holds : Rows.PolicyLearnsSaid :=
  OpenClaim.holds_of_wide 4 Try.f4 rfl rfl rfl rfl rfl rfl rfl ⟨rfl, rfl, rfl, rfl, rfl⟩ rfl rfl rfl rfl rfl (by kernel_rfl) Try.func4 (by kernel_rfl)
    (of_decide_eq_true (by kernel_rfl)) (by unfold Func.isWrapper; first | (rw [if_pos (by decide +kernel)]; kernel_rfl) | (rw [if_neg (by decide +kernel)]; exact ⟨rfl, rfl⟩))
    (fun os started H enc _ => policyLearns_lifted os started H enc)
#print axioms policyLearns_holds
end Go.Proofs.Ythlfghheciamcaa
