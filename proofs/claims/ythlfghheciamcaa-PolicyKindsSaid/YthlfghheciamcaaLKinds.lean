/-
  PolicyKinds: one option alone: taken, naked or rejected by its kind: the law answers true at every kind, data and link.
  Conditions: none.
-/
import Derived.Test.YthlfghheciamcaaM2
import Derived.Test.YthlfghheciamcaaT3
import Derived.BigQuiet
namespace Go.Proofs.Ythlfghheciamcaa
open Go.RowKit Go.Joins Go.ChangeShapes Go.WideShapes Go.Deep
open Go.ChangeMaps (open_string shut_string)
set_option linter.unusedVariables false

theorem kind_range (k : Int) : 0 ≤ wrap64 ((IntKind.u64.wrap k).tmod 30) ∧ wrap64 ((IntKind.u64.wrap k).tmod 30) < 30 := by
  have h0 : 0 ≤ IntKind.u64.wrap k := by unfold IntKind.wrap; simp [IntKind.bits, IntKind.signed]; omega
  have h1 : (IntKind.u64.wrap k).tmod 30 = IntKind.u64.wrap k % 30 := Int.tmod_eq_emod_of_nonneg h0
  rw [h1]
  unfold wrap64
  omega
theorem judge_one {own : LinkD} {o : OptD} (hm : own.may = true) (hf : fitB o = true) : judgeD own [o] = if badB own [] o then (2, [o], 0) else if (betterD own o).2 then (1, [(betterD own o).1], 0) else (0, [o], 0) := by
  unfold judgeD
  rw [hm, if_pos rfl, judgeGo, if_pos hf]
  cases badB own [] o with
  | true => rfl
  | false =>
    cases (betterD own o).2 with
    | true => rfl
    | false => rfl
theorem reads_one' (w : World) (o : OptD) (g : Nat) (hg : g = w.heap.size) : Reads (w.alloc (.cells #[.int .i64 o.kind, .string o.data] 36)) (w.alloc (.cells #[.int .i64 o.kind, .string o.data] 36)).heap.size 2 (some ⟨g, 0, none⟩) 1 (optCells [o]) := by
  subst hg
  exact reads_one w o
theorem size_pos {d : ByteArray} (h : ¬ d = ⟨#[]⟩) : 0 < d.size := by
  obtain ⟨⟨l⟩⟩ := d
  cases l with
  | nil => exact absurd rfl h
  | cons a l => simp [ByteArray.size]
theorem toList_ne {d : ByteArray} {l : List UInt8} (h : ¬ d = ⟨l.toArray⟩) : ¬ d.toList = l := by
  intro e
  rw [ByteArray.toList_eq] at e
  subst e
  exact h rfl
theorem two_at (a b : UInt8) (h0 : 0 < (⟨#[a, b]⟩ : ByteArray).size) (h1 : 1 < (⟨#[a, b]⟩ : ByteArray).size) : wrap64 (wrap64 (wrap64 ((((⟨#[a, b]⟩ : ByteArray)[0]'h0).toNat : Int)) * 256) + wrap64 ((((⟨#[a, b]⟩ : ByteArray)[1]'h1).toNat : Int))) = ((a.toNat * 256 + b.toNat : Nat) : Int) := by
  have ha := a.toNat_lt
  have hb := b.toNat_lt
  show wrap64 (wrap64 (wrap64 (a.toNat : Int) * 256) + wrap64 (b.toNat : Int)) = _
  unfold wrap64
  omega
theorem byte_zero {a : UInt8} (h : a.toNat = 0) : a = 0 := UInt8.toNat_inj.1 h
theorem byte_nine {a : UInt8} (h : a.toNat = 9) : a = 9 := UInt8.toNat_inj.1 h
def own9 (short : Bool) : LinkD := ⟨0, 9, 0, short, ⟨#[]⟩, 0⟩
theorem own9_may (short : Bool) : (own9 short).may = true := rfl
theorem bad_19 {short : Bool} {D : ByteArray} (h : ¬ (1 ≤ D.size ∧ D.size ≤ 20)) : badB (own9 short) [] ⟨19, D⟩ = true := by
  have h2 : (decide (1 ≤ D.size) && decide (D.size ≤ 20)) = false := by
    rcases h1 : decide (1 ≤ D.size) with _ | _
    · rfl
    · rcases h3 : decide (D.size ≤ 20) with _ | _
      · rfl
      · exact absurd ⟨of_decide_eq_true h1, of_decide_eq_true h3⟩ h
  show (!(((-1 : Int) == (D.size : Int)) || (true && (decide (1 ≤ D.size) && decide (D.size ≤ 20)))) || _) = true
  rw [h2]
  simp
theorem better_not {short : Bool} {D : ByteArray} (hs : D.size = 4) (h0 : ¬ D = ⟨#[0, 0, 0, 0]⟩) (h9 : ¬ D = ⟨#[0, 0, 0, 9]⟩) : (betterD (own9 short) ⟨5, D⟩).2 = false := by
  obtain ⟨a, b, c, e, rfl⟩ := bytes_four hs
  show (valB ⟨#[a, b, c, e]⟩ == 0 || valB ⟨#[a, b, c, e]⟩ == 9) = false
  have ha := a.toNat_lt
  have hb := b.toNat_lt
  have hc := c.toNat_lt
  have he := e.toNat_lt
  have n0 : ¬ valB ⟨#[a, b, c, e]⟩ = 0 := by
    rw [valB_four]
    intro h
    rw [byte_zero (a := a) (by omega), byte_zero (a := b) (by omega), byte_zero (a := c) (by omega), byte_zero (a := e) (by omega)] at h0
    exact h0 rfl
  have n9 : ¬ valB ⟨#[a, b, c, e]⟩ = 9 := by
    rw [valB_four]
    intro h
    rw [byte_zero (a := a) (by omega), byte_zero (a := b) (by omega), byte_zero (a := c) (by omega), byte_nine (a := e) (by omega)] at h9
    exact h9 rfl
  simp [n0, n9]
theorem judge9_bad (short : Bool) (o : OptD) (hf : fitB o = true) (hb : badB (own9 short) [] o = true) : judgeD (own9 short) [o] = (2, [o], 0) := by
  rw [judge_one (own9_may short) hf, hb]; rfl
theorem judge9_ok (short : Bool) (o : OptD) (hf : fitB o = true) (hb : badB (own9 short) [] o = false) (hn : (betterD (own9 short) o).2 = false) : judgeD (own9 short) [o] = (0, [o], 0) := by
  rw [judge_one (own9_may short) hf, hb, hn]; rfl
theorem judge9_nak (short : Bool) (o : OptD) (hf : fitB o = true) (hb : badB (own9 short) [] o = false) (hn : (betterD (own9 short) o).2 = true) : judgeD (own9 short) [o] = (1, [(betterD (own9 short) o).1], 0) := by
  rw [judge_one (own9_may short) hf, hb, hn]; rfl
set_option maxRecDepth 100000 in
set_option maxHeartbeats 4000000 in
theorem walk_policyKinds (kind : Int) (data : ByteArray) (short : Bool) (w : World) (hd : data.size ≤ 140737488351232) :
    Calls Try.prog 5 #[.int .i64 kind, .string data, .bool short] w fun e w' => e = .returned (.bool true) ∧ Below w.heap.size w w' := by
  go_enter Try.func5, Try.ntmps5
  go_wp2_with fail
  refine (awake_any _).mono ?_
  rintro e w1 ⟨rfl, hk1⟩
  have hw1 := Lib.hid hk1
  clear hk1
  have hK := kind_range kind
  by_cases h40 : 40 < data.size
  · go_wp2_with fail
    have hD : (data.extract 0 40).size ≤ 40 := by simp only [ByteArray.size_extract]; omega
    generalize data.extract 0 40 = D at *
    generalize wrap64 ((IntKind.u64.wrap kind).tmod 30) = K at *
    clear h40
    by_cases k23 : K = 23
    · subst k23
      by_cases hs : D.size = 2
      · have hj := judge_any (own9 short) (some ⟨w1.heap.size + 1, 0, none⟩) 1 1 [⟨23, D⟩] ((w1.alloc (.cells (own9 short).cells 23)).alloc (.cells #[.int .i64 23, .string D] 36)) (reads_one' (w1.alloc (.cells (own9 short).cells 23)) ⟨23, D⟩ _ (by simp)) rfl (by omega) (by omega)
        have hE : judgeD (own9 short) [⟨23, D⟩] = (0, [⟨23, D⟩], 0) := judge9_ok short ⟨23, D⟩ (by simp [fitB]; omega) (by simp [badB, rightB, sizeK, hs, twiceB]) (by simp [betterD])
        rw [hE] at hj
        refine hj.mono ?_
        rintro e w2 ⟨v2, rfl, hk2⟩
        have own2 := hk2.own
        rw [hE] at own2
        obtain ⟨g2, cap2, rfl, hg2, hgl2, hnc2, hm2, hcell2⟩ := own_some own2 (by simp)
        have q0 : w2.cell? ⟨g2, 0, none⟩ = some (.int .i64 23) := hcell2 0 _ rfl
        have q1 : w2.cell? ⟨g2, 1, none⟩ = some (.string D) := hcell2 1 _ rfl
        have hw2 := Lib.hid (below_trans' ((hw1.out.alloc hw1.out.size (.cells (own9 short).cells 23)).alloc (by have := hw1.out.size; simp; omega) (.cells #[.int .i64 23, .string D] 36)) (by have := hw1.out.size; simp; omega) hk2.below)
        clear hj hE hk2 own2 hcell2 hg2 hm2 hw1
        go_wp2_with (go_at_call 11; refine (num_any _ _).mono ?_; rintro e w' ⟨rfl, rfl⟩)
        go_ret
        exact ⟨rfl, hw2.out⟩
      · have hj := judge_any (own9 short) (some ⟨w1.heap.size + 1, 0, none⟩) 1 1 [⟨23, D⟩] ((w1.alloc (.cells (own9 short).cells 23)).alloc (.cells #[.int .i64 23, .string D] 36)) (reads_one' (w1.alloc (.cells (own9 short).cells 23)) ⟨23, D⟩ _ (by simp)) rfl (by omega) (by omega)
        have hE : judgeD (own9 short) [⟨23, D⟩] = (2, [⟨23, D⟩], 0) := judge9_bad short ⟨23, D⟩ (by simp [fitB]; omega) (by simp [badB, rightB, sizeK]; omega)
        rw [hE] at hj
        refine hj.mono ?_
        rintro e w2 ⟨v2, rfl, hk2⟩
        have own2 := hk2.own
        rw [hE] at own2
        obtain ⟨g2, cap2, rfl, hg2, hgl2, hnc2, hm2, hcell2⟩ := own_some own2 (by simp)
        have q0 : w2.cell? ⟨g2, 0, none⟩ = some (.int .i64 23) := hcell2 0 _ rfl
        have q1 : w2.cell? ⟨g2, 1, none⟩ = some (.string D) := hcell2 1 _ rfl
        have hw2 := Lib.hid (below_trans' ((hw1.out.alloc hw1.out.size (.cells (own9 short).cells 23)).alloc (by have := hw1.out.size; simp; omega) (.cells #[.int .i64 23, .string D] 36)) (by have := hw1.out.size; simp; omega) hk2.below)
        clear hj hE hk2 own2 hcell2 hg2 hm2 hw1
        go_wp2_with (go_at_call 11; refine (num_any _ _).mono ?_; rintro e w' ⟨rfl, rfl⟩)
        go_ret
        exact ⟨rfl, hw2.out⟩
    by_cases k19 : K = 19
    · subst k19
      by_cases hs : 1 ≤ D.size
      · by_cases hs2 : D.size ≤ 20
        · have hj := judge_any (own9 short) (some ⟨w1.heap.size + 1, 0, none⟩) 1 1 [⟨19, D⟩] ((w1.alloc (.cells (own9 short).cells 23)).alloc (.cells #[.int .i64 19, .string D] 36)) (reads_one' (w1.alloc (.cells (own9 short).cells 23)) ⟨19, D⟩ _ (by simp)) rfl (by omega) (by omega)
          have hE : judgeD (own9 short) [⟨19, D⟩] = (0, [⟨19, D⟩], 0) := judge9_ok short ⟨19, D⟩ (by simp [fitB]; omega) (by simp [badB, rightB, sizeK, hs, hs2, twiceB]) (by simp [betterD])
          rw [hE] at hj
          refine hj.mono ?_
          rintro e w2 ⟨v2, rfl, hk2⟩
          have own2 := hk2.own
          rw [hE] at own2
          obtain ⟨g2, cap2, rfl, hg2, hgl2, hnc2, hm2, hcell2⟩ := own_some own2 (by simp)
          have q0 : w2.cell? ⟨g2, 0, none⟩ = some (.int .i64 19) := hcell2 0 _ rfl
          have q1 : w2.cell? ⟨g2, 1, none⟩ = some (.string D) := hcell2 1 _ rfl
          have hw2 := Lib.hid (below_trans' ((hw1.out.alloc hw1.out.size (.cells (own9 short).cells 23)).alloc (by have := hw1.out.size; simp; omega) (.cells #[.int .i64 19, .string D] 36)) (by have := hw1.out.size; simp; omega) hk2.below)
          clear hj hE hk2 own2 hcell2 hg2 hm2 hw1
          go_wp2_with (go_at_call 11; refine (num_any _ _).mono ?_; rintro e w' ⟨rfl, rfl⟩)
          go_ret
          exact ⟨rfl, hw2.out⟩
        · have hj := judge_any (own9 short) (some ⟨w1.heap.size + 1, 0, none⟩) 1 1 [⟨19, D⟩] ((w1.alloc (.cells (own9 short).cells 23)).alloc (.cells #[.int .i64 19, .string D] 36)) (reads_one' (w1.alloc (.cells (own9 short).cells 23)) ⟨19, D⟩ _ (by simp)) rfl (by omega) (by omega)
          have hE : judgeD (own9 short) [⟨19, D⟩] = (2, [⟨19, D⟩], 0) := judge9_bad short ⟨19, D⟩ (by simp [fitB]; omega) (bad_19 (by omega))
          rw [hE] at hj
          refine hj.mono ?_
          rintro e w2 ⟨v2, rfl, hk2⟩
          have own2 := hk2.own
          rw [hE] at own2
          obtain ⟨g2, cap2, rfl, hg2, hgl2, hnc2, hm2, hcell2⟩ := own_some own2 (by simp)
          have q0 : w2.cell? ⟨g2, 0, none⟩ = some (.int .i64 19) := hcell2 0 _ rfl
          have q1 : w2.cell? ⟨g2, 1, none⟩ = some (.string D) := hcell2 1 _ rfl
          have hw2 := Lib.hid (below_trans' ((hw1.out.alloc hw1.out.size (.cells (own9 short).cells 23)).alloc (by have := hw1.out.size; simp; omega) (.cells #[.int .i64 19, .string D] 36)) (by have := hw1.out.size; simp; omega) hk2.below)
          clear hj hE hk2 own2 hcell2 hg2 hm2 hw1
          go_wp2_with (go_at_call 11; refine (num_any _ _).mono ?_; rintro e w' ⟨rfl, rfl⟩)
          go_ret
          exact ⟨rfl, hw2.out⟩
      · have hj := judge_any (own9 short) (some ⟨w1.heap.size + 1, 0, none⟩) 1 1 [⟨19, D⟩] ((w1.alloc (.cells (own9 short).cells 23)).alloc (.cells #[.int .i64 19, .string D] 36)) (reads_one' (w1.alloc (.cells (own9 short).cells 23)) ⟨19, D⟩ _ (by simp)) rfl (by omega) (by omega)
        have hE : judgeD (own9 short) [⟨19, D⟩] = (2, [⟨19, D⟩], 0) := judge9_bad short ⟨19, D⟩ (by simp [fitB]; omega) (bad_19 (by omega))
        rw [hE] at hj
        refine hj.mono ?_
        rintro e w2 ⟨v2, rfl, hk2⟩
        have own2 := hk2.own
        rw [hE] at own2
        obtain ⟨g2, cap2, rfl, hg2, hgl2, hnc2, hm2, hcell2⟩ := own_some own2 (by simp)
        have q0 : w2.cell? ⟨g2, 0, none⟩ = some (.int .i64 19) := hcell2 0 _ rfl
        have q1 : w2.cell? ⟨g2, 1, none⟩ = some (.string D) := hcell2 1 _ rfl
        have hw2 := Lib.hid (below_trans' ((hw1.out.alloc hw1.out.size (.cells (own9 short).cells 23)).alloc (by have := hw1.out.size; simp; omega) (.cells #[.int .i64 19, .string D] 36)) (by have := hw1.out.size; simp; omega) hk2.below)
        clear hj hE hk2 own2 hcell2 hg2 hm2 hw1
        go_wp2_with (go_at_call 11; refine (num_any _ _).mono ?_; rintro e w' ⟨rfl, rfl⟩)
        go_ret
        exact ⟨rfl, hw2.out⟩
    by_cases k18 : K = 18
    · subst k18
      by_cases hs : D = ⟨#[]⟩
      · subst hs
        rcases short with _ | _
        · have hj := judge_any (own9 false) (some ⟨w1.heap.size + 1, 0, none⟩) 1 1 [⟨18, ⟨#[]⟩⟩] ((w1.alloc (.cells (own9 false).cells 23)).alloc (.cells #[.int .i64 18, .string ⟨#[]⟩] 36)) (reads_one' (w1.alloc (.cells (own9 false).cells 23)) ⟨18, ⟨#[]⟩⟩ _ (by simp)) rfl (by omega) (by omega)
          have hE : judgeD (own9 false) [⟨18, ⟨#[]⟩⟩] = (2, [⟨18, ⟨#[]⟩⟩], 0) := judge9_bad false ⟨18, ⟨#[]⟩⟩ (by decide) (by decide)
          rw [hE] at hj
          refine hj.mono ?_
          rintro e w2 ⟨v2, rfl, hk2⟩
          have own2 := hk2.own
          rw [hE] at own2
          obtain ⟨g2, cap2, rfl, hg2, hgl2, hnc2, hm2, hcell2⟩ := own_some own2 (by simp)
          have q0 : w2.cell? ⟨g2, 0, none⟩ = some (.int .i64 18) := hcell2 0 _ rfl
          have q1 : w2.cell? ⟨g2, 1, none⟩ = some (.string ⟨#[]⟩) := hcell2 1 _ rfl
          have hw2 := Lib.hid (below_trans' ((hw1.out.alloc hw1.out.size (.cells (own9 false).cells 23)).alloc (by have := hw1.out.size; simp; omega) (.cells #[.int .i64 18, .string ⟨#[]⟩] 36)) (by have := hw1.out.size; simp; omega) hk2.below)
          clear hj hE hk2 own2 hcell2 hg2 hm2 hw1
          go_wp2_with (go_at_call 11; refine (num_any _ _).mono ?_; rintro e w' ⟨rfl, rfl⟩)
          go_ret
          exact ⟨rfl, hw2.out⟩
        · have hj := judge_any (own9 true) (some ⟨w1.heap.size + 1, 0, none⟩) 1 1 [⟨18, ⟨#[]⟩⟩] ((w1.alloc (.cells (own9 true).cells 23)).alloc (.cells #[.int .i64 18, .string ⟨#[]⟩] 36)) (reads_one' (w1.alloc (.cells (own9 true).cells 23)) ⟨18, ⟨#[]⟩⟩ _ (by simp)) rfl (by omega) (by omega)
          have hE : judgeD (own9 true) [⟨18, ⟨#[]⟩⟩] = (0, [⟨18, ⟨#[]⟩⟩], 0) := judge9_ok true ⟨18, ⟨#[]⟩⟩ (by decide) (by decide) (by decide)
          rw [hE] at hj
          refine hj.mono ?_
          rintro e w2 ⟨v2, rfl, hk2⟩
          have own2 := hk2.own
          rw [hE] at own2
          obtain ⟨g2, cap2, rfl, hg2, hgl2, hnc2, hm2, hcell2⟩ := own_some own2 (by simp)
          have q0 : w2.cell? ⟨g2, 0, none⟩ = some (.int .i64 18) := hcell2 0 _ rfl
          have q1 : w2.cell? ⟨g2, 1, none⟩ = some (.string ⟨#[]⟩) := hcell2 1 _ rfl
          have hw2 := Lib.hid (below_trans' ((hw1.out.alloc hw1.out.size (.cells (own9 true).cells 23)).alloc (by have := hw1.out.size; simp; omega) (.cells #[.int .i64 18, .string ⟨#[]⟩] 36)) (by have := hw1.out.size; simp; omega) hk2.below)
          clear hj hE hk2 own2 hcell2 hg2 hm2 hw1
          go_wp2_with (go_at_call 11; refine (num_any _ _).mono ?_; rintro e w' ⟨rfl, rfl⟩)
          go_ret
          exact ⟨rfl, hw2.out⟩
      · have hz := size_pos hs
        have ht := toList_ne (l := []) hs
        rcases short with _ | _
        · have hj := judge_any (own9 false) (some ⟨w1.heap.size + 1, 0, none⟩) 1 1 [⟨18, D⟩] ((w1.alloc (.cells (own9 false).cells 23)).alloc (.cells #[.int .i64 18, .string D] 36)) (reads_one' (w1.alloc (.cells (own9 false).cells 23)) ⟨18, D⟩ _ (by simp)) rfl (by omega) (by omega)
          have hE : judgeD (own9 false) [⟨18, D⟩] = (2, [⟨18, D⟩], 0) := judge9_bad false ⟨18, D⟩ (by simp [fitB]; omega) (by simp [badB, rightB, sizeK]; omega)
          rw [hE] at hj
          refine hj.mono ?_
          rintro e w2 ⟨v2, rfl, hk2⟩
          have own2 := hk2.own
          rw [hE] at own2
          obtain ⟨g2, cap2, rfl, hg2, hgl2, hnc2, hm2, hcell2⟩ := own_some own2 (by simp)
          have q0 : w2.cell? ⟨g2, 0, none⟩ = some (.int .i64 18) := hcell2 0 _ rfl
          have q1 : w2.cell? ⟨g2, 1, none⟩ = some (.string D) := hcell2 1 _ rfl
          have hw2 := Lib.hid (below_trans' ((hw1.out.alloc hw1.out.size (.cells (own9 false).cells 23)).alloc (by have := hw1.out.size; simp; omega) (.cells #[.int .i64 18, .string D] 36)) (by have := hw1.out.size; simp; omega) hk2.below)
          clear hj hE hk2 own2 hcell2 hg2 hm2 hw1
          go_wp2_with (go_at_call 11; refine (num_any _ _).mono ?_; rintro e w' ⟨rfl, rfl⟩)
          go_ret
          exact ⟨rfl, hw2.out⟩
        · have hj := judge_any (own9 true) (some ⟨w1.heap.size + 1, 0, none⟩) 1 1 [⟨18, D⟩] ((w1.alloc (.cells (own9 true).cells 23)).alloc (.cells #[.int .i64 18, .string D] 36)) (reads_one' (w1.alloc (.cells (own9 true).cells 23)) ⟨18, D⟩ _ (by simp)) rfl (by omega) (by omega)
          have hE : judgeD (own9 true) [⟨18, D⟩] = (2, [⟨18, D⟩], 0) := judge9_bad true ⟨18, D⟩ (by simp [fitB]; omega) (by simp [badB, rightB, sizeK]; omega)
          rw [hE] at hj
          refine hj.mono ?_
          rintro e w2 ⟨v2, rfl, hk2⟩
          have own2 := hk2.own
          rw [hE] at own2
          obtain ⟨g2, cap2, rfl, hg2, hgl2, hnc2, hm2, hcell2⟩ := own_some own2 (by simp)
          have q0 : w2.cell? ⟨g2, 0, none⟩ = some (.int .i64 18) := hcell2 0 _ rfl
          have q1 : w2.cell? ⟨g2, 1, none⟩ = some (.string D) := hcell2 1 _ rfl
          have hw2 := Lib.hid (below_trans' ((hw1.out.alloc hw1.out.size (.cells (own9 true).cells 23)).alloc (by have := hw1.out.size; simp; omega) (.cells #[.int .i64 18, .string D] 36)) (by have := hw1.out.size; simp; omega) hk2.below)
          clear hj hE hk2 own2 hcell2 hg2 hm2 hw1
          go_wp2_with (go_at_call 11; refine (num_any _ _).mono ?_; rintro e w' ⟨rfl, rfl⟩)
          go_ret
          exact ⟨rfl, hw2.out⟩
    by_cases k1 : K = 1
    · subst k1
      by_cases hs : D.size = 2
      · obtain ⟨a, b, rfl⟩ := bytes_two hs
        have ha := a.toNat_lt
        have hb := b.toNat_lt
        by_cases h1 : 128 ≤ a.toNat * 256 + b.toNat
        · by_cases h2 : a.toNat * 256 + b.toNat ≤ 1500
          · have hj := judge_any (own9 short) (some ⟨w1.heap.size + 1, 0, none⟩) 1 1 [⟨1, ⟨#[a, b]⟩⟩] ((w1.alloc (.cells (own9 short).cells 23)).alloc (.cells #[.int .i64 1, .string ⟨#[a, b]⟩] 36)) (reads_one' (w1.alloc (.cells (own9 short).cells 23)) ⟨1, ⟨#[a, b]⟩⟩ _ (by simp)) rfl (by omega) (by omega)
            have hE : judgeD (own9 short) [⟨1, ⟨#[a, b]⟩⟩] = (0, [⟨1, ⟨#[a, b]⟩⟩], 0) := judge9_ok short ⟨1, ⟨#[a, b]⟩⟩ (by simp [fitB, ByteArray.size]) (by simp [badB, rightB, sizeK, twiceB, ByteArray.size]) (by rw [show (betterD (own9 short) ⟨1, ⟨#[a, b]⟩⟩).2 = !unitB (valB ⟨#[a, b]⟩) from rfl, valB_two]; simp [unitB]; omega)
            rw [hE] at hj
            refine hj.mono ?_
            rintro e w2 ⟨v2, rfl, hk2⟩
            have own2 := hk2.own
            rw [hE] at own2
            obtain ⟨g2, cap2, rfl, hg2, hgl2, hnc2, hm2, hcell2⟩ := own_some own2 (by simp)
            have q0 : w2.cell? ⟨g2, 0, none⟩ = some (.int .i64 1) := hcell2 0 _ rfl
            have q1 : w2.cell? ⟨g2, 1, none⟩ = some (.string ⟨#[a, b]⟩) := hcell2 1 _ rfl
            have hw2 := Lib.hid (below_trans' ((hw1.out.alloc hw1.out.size (.cells (own9 short).cells 23)).alloc (by have := hw1.out.size; simp; omega) (.cells #[.int .i64 1, .string ⟨#[a, b]⟩] 36)) (by have := hw1.out.size; simp; omega) hk2.below)
            clear hj hE hk2 own2 hcell2 hg2 hm2 hw1
            go_wp2_with (go_at_call 11; refine (num_any _ _).mono ?_; rintro e w' ⟨rfl, rfl⟩)
            go_quiet (fail)
            rw [two_at]
            go_wp2_with (go_at_call 11; refine (num_any _ _).mono ?_; rintro e w' ⟨rfl, rfl⟩)
            go_ret
            exact ⟨rfl, below_drewN hw2.out _⟩
          · have hj := judge_any (own9 short) (some ⟨w1.heap.size + 1, 0, none⟩) 1 1 [⟨1, ⟨#[a, b]⟩⟩] ((w1.alloc (.cells (own9 short).cells 23)).alloc (.cells #[.int .i64 1, .string ⟨#[a, b]⟩] 36)) (reads_one' (w1.alloc (.cells (own9 short).cells 23)) ⟨1, ⟨#[a, b]⟩⟩ _ (by simp)) rfl (by omega) (by omega)
            have hE : judgeD (own9 short) [⟨1, ⟨#[a, b]⟩⟩] = (1, [⟨1, (numB 1500 2)⟩], 0) := judge9_nak short ⟨1, ⟨#[a, b]⟩⟩ (by simp [fitB, ByteArray.size]) (by simp [badB, rightB, sizeK, twiceB, ByteArray.size]) (by rw [show (betterD (own9 short) ⟨1, ⟨#[a, b]⟩⟩).2 = !unitB (valB ⟨#[a, b]⟩) from rfl, valB_two]; simp [unitB]; omega)
            rw [hE] at hj
            refine hj.mono ?_
            rintro e w2 ⟨v2, rfl, hk2⟩
            have own2 := hk2.own
            rw [hE] at own2
            obtain ⟨g2, cap2, rfl, hg2, hgl2, hnc2, hm2, hcell2⟩ := own_some own2 (by simp)
            have q0 : w2.cell? ⟨g2, 0, none⟩ = some (.int .i64 1) := hcell2 0 _ rfl
            have q1 : w2.cell? ⟨g2, 1, none⟩ = some (.string (numB 1500 2)) := hcell2 1 _ rfl
            have hw2 := Lib.hid (below_trans' ((hw1.out.alloc hw1.out.size (.cells (own9 short).cells 23)).alloc (by have := hw1.out.size; simp; omega) (.cells #[.int .i64 1, .string ⟨#[a, b]⟩] 36)) (by have := hw1.out.size; simp; omega) hk2.below)
            clear hj hE hk2 own2 hcell2 hg2 hm2 hw1
            go_wp2_with (go_at_call 11; refine (num_any _ _).mono ?_; rintro e w' ⟨rfl, rfl⟩)
            go_quiet (fail)
            rw [two_at]
            go_wp2_with (go_at_call 11; refine (num_any _ _).mono ?_; rintro e w' ⟨rfl, rfl⟩)
            go_ret
            exact ⟨rfl, below_drewN hw2.out _⟩
        · have hj := judge_any (own9 short) (some ⟨w1.heap.size + 1, 0, none⟩) 1 1 [⟨1, ⟨#[a, b]⟩⟩] ((w1.alloc (.cells (own9 short).cells 23)).alloc (.cells #[.int .i64 1, .string ⟨#[a, b]⟩] 36)) (reads_one' (w1.alloc (.cells (own9 short).cells 23)) ⟨1, ⟨#[a, b]⟩⟩ _ (by simp)) rfl (by omega) (by omega)
          have hE : judgeD (own9 short) [⟨1, ⟨#[a, b]⟩⟩] = (1, [⟨1, (numB 1500 2)⟩], 0) := judge9_nak short ⟨1, ⟨#[a, b]⟩⟩ (by simp [fitB, ByteArray.size]) (by simp [badB, rightB, sizeK, twiceB, ByteArray.size]) (by rw [show (betterD (own9 short) ⟨1, ⟨#[a, b]⟩⟩).2 = !unitB (valB ⟨#[a, b]⟩) from rfl, valB_two]; simp [unitB]; omega)
          rw [hE] at hj
          refine hj.mono ?_
          rintro e w2 ⟨v2, rfl, hk2⟩
          have own2 := hk2.own
          rw [hE] at own2
          obtain ⟨g2, cap2, rfl, hg2, hgl2, hnc2, hm2, hcell2⟩ := own_some own2 (by simp)
          have q0 : w2.cell? ⟨g2, 0, none⟩ = some (.int .i64 1) := hcell2 0 _ rfl
          have q1 : w2.cell? ⟨g2, 1, none⟩ = some (.string (numB 1500 2)) := hcell2 1 _ rfl
          have hw2 := Lib.hid (below_trans' ((hw1.out.alloc hw1.out.size (.cells (own9 short).cells 23)).alloc (by have := hw1.out.size; simp; omega) (.cells #[.int .i64 1, .string ⟨#[a, b]⟩] 36)) (by have := hw1.out.size; simp; omega) hk2.below)
          clear hj hE hk2 own2 hcell2 hg2 hm2 hw1
          go_wp2_with (go_at_call 11; refine (num_any _ _).mono ?_; rintro e w' ⟨rfl, rfl⟩)
          go_quiet (fail)
          rw [two_at]
          go_wp2_with (go_at_call 11; refine (num_any _ _).mono ?_; rintro e w' ⟨rfl, rfl⟩)
          go_ret
          exact ⟨rfl, below_drewN hw2.out _⟩
      · have hj := judge_any (own9 short) (some ⟨w1.heap.size + 1, 0, none⟩) 1 1 [⟨1, D⟩] ((w1.alloc (.cells (own9 short).cells 23)).alloc (.cells #[.int .i64 1, .string D] 36)) (reads_one' (w1.alloc (.cells (own9 short).cells 23)) ⟨1, D⟩ _ (by simp)) rfl (by omega) (by omega)
        have hE : judgeD (own9 short) [⟨1, D⟩] = (2, [⟨1, D⟩], 0) := judge9_bad short ⟨1, D⟩ (by simp [fitB]; omega) (by simp [badB, rightB, sizeK]; omega)
        rw [hE] at hj
        refine hj.mono ?_
        rintro e w2 ⟨v2, rfl, hk2⟩
        have own2 := hk2.own
        rw [hE] at own2
        obtain ⟨g2, cap2, rfl, hg2, hgl2, hnc2, hm2, hcell2⟩ := own_some own2 (by simp)
        have q0 : w2.cell? ⟨g2, 0, none⟩ = some (.int .i64 1) := hcell2 0 _ rfl
        have q1 : w2.cell? ⟨g2, 1, none⟩ = some (.string D) := hcell2 1 _ rfl
        have hw2 := Lib.hid (below_trans' ((hw1.out.alloc hw1.out.size (.cells (own9 short).cells 23)).alloc (by have := hw1.out.size; simp; omega) (.cells #[.int .i64 1, .string D] 36)) (by have := hw1.out.size; simp; omega) hk2.below)
        clear hj hE hk2 own2 hcell2 hg2 hm2 hw1
        go_wp2_with (go_at_call 11; refine (num_any _ _).mono ?_; rintro e w' ⟨rfl, rfl⟩)
        go_ret
        exact ⟨rfl, hw2.out⟩
    by_cases k17 : K = 17
    · subst k17
      by_cases hs : D.size = 2
      · obtain ⟨a, b, rfl⟩ := bytes_two hs
        have ha := a.toNat_lt
        have hb := b.toNat_lt
        by_cases h1 : 128 ≤ a.toNat * 256 + b.toNat
        · by_cases h2 : a.toNat * 256 + b.toNat ≤ 1500
          · have hj := judge_any (own9 short) (some ⟨w1.heap.size + 1, 0, none⟩) 1 1 [⟨17, ⟨#[a, b]⟩⟩] ((w1.alloc (.cells (own9 short).cells 23)).alloc (.cells #[.int .i64 17, .string ⟨#[a, b]⟩] 36)) (reads_one' (w1.alloc (.cells (own9 short).cells 23)) ⟨17, ⟨#[a, b]⟩⟩ _ (by simp)) rfl (by omega) (by omega)
            have hE : judgeD (own9 short) [⟨17, ⟨#[a, b]⟩⟩] = (0, [⟨17, ⟨#[a, b]⟩⟩], 0) := judge9_ok short ⟨17, ⟨#[a, b]⟩⟩ (by simp [fitB, ByteArray.size]) (by simp [badB, rightB, sizeK, twiceB, ByteArray.size]) (by rw [show (betterD (own9 short) ⟨17, ⟨#[a, b]⟩⟩).2 = !unitB (valB ⟨#[a, b]⟩) from rfl, valB_two]; simp [unitB]; omega)
            rw [hE] at hj
            refine hj.mono ?_
            rintro e w2 ⟨v2, rfl, hk2⟩
            have own2 := hk2.own
            rw [hE] at own2
            obtain ⟨g2, cap2, rfl, hg2, hgl2, hnc2, hm2, hcell2⟩ := own_some own2 (by simp)
            have q0 : w2.cell? ⟨g2, 0, none⟩ = some (.int .i64 17) := hcell2 0 _ rfl
            have q1 : w2.cell? ⟨g2, 1, none⟩ = some (.string ⟨#[a, b]⟩) := hcell2 1 _ rfl
            have hw2 := Lib.hid (below_trans' ((hw1.out.alloc hw1.out.size (.cells (own9 short).cells 23)).alloc (by have := hw1.out.size; simp; omega) (.cells #[.int .i64 17, .string ⟨#[a, b]⟩] 36)) (by have := hw1.out.size; simp; omega) hk2.below)
            clear hj hE hk2 own2 hcell2 hg2 hm2 hw1
            go_wp2_with (go_at_call 11; refine (num_any _ _).mono ?_; rintro e w' ⟨rfl, rfl⟩)
            go_quiet (fail)
            rw [two_at]
            go_wp2_with (go_at_call 11; refine (num_any _ _).mono ?_; rintro e w' ⟨rfl, rfl⟩)
            go_ret
            exact ⟨rfl, below_drewN hw2.out _⟩
          · have hj := judge_any (own9 short) (some ⟨w1.heap.size + 1, 0, none⟩) 1 1 [⟨17, ⟨#[a, b]⟩⟩] ((w1.alloc (.cells (own9 short).cells 23)).alloc (.cells #[.int .i64 17, .string ⟨#[a, b]⟩] 36)) (reads_one' (w1.alloc (.cells (own9 short).cells 23)) ⟨17, ⟨#[a, b]⟩⟩ _ (by simp)) rfl (by omega) (by omega)
            have hE : judgeD (own9 short) [⟨17, ⟨#[a, b]⟩⟩] = (1, [⟨17, (numB 1500 2)⟩], 0) := judge9_nak short ⟨17, ⟨#[a, b]⟩⟩ (by simp [fitB, ByteArray.size]) (by simp [badB, rightB, sizeK, twiceB, ByteArray.size]) (by rw [show (betterD (own9 short) ⟨17, ⟨#[a, b]⟩⟩).2 = !unitB (valB ⟨#[a, b]⟩) from rfl, valB_two]; simp [unitB]; omega)
            rw [hE] at hj
            refine hj.mono ?_
            rintro e w2 ⟨v2, rfl, hk2⟩
            have own2 := hk2.own
            rw [hE] at own2
            obtain ⟨g2, cap2, rfl, hg2, hgl2, hnc2, hm2, hcell2⟩ := own_some own2 (by simp)
            have q0 : w2.cell? ⟨g2, 0, none⟩ = some (.int .i64 17) := hcell2 0 _ rfl
            have q1 : w2.cell? ⟨g2, 1, none⟩ = some (.string (numB 1500 2)) := hcell2 1 _ rfl
            have hw2 := Lib.hid (below_trans' ((hw1.out.alloc hw1.out.size (.cells (own9 short).cells 23)).alloc (by have := hw1.out.size; simp; omega) (.cells #[.int .i64 17, .string ⟨#[a, b]⟩] 36)) (by have := hw1.out.size; simp; omega) hk2.below)
            clear hj hE hk2 own2 hcell2 hg2 hm2 hw1
            go_wp2_with (go_at_call 11; refine (num_any _ _).mono ?_; rintro e w' ⟨rfl, rfl⟩)
            go_quiet (fail)
            rw [two_at]
            go_wp2_with (go_at_call 11; refine (num_any _ _).mono ?_; rintro e w' ⟨rfl, rfl⟩)
            go_ret
            exact ⟨rfl, below_drewN hw2.out _⟩
        · have hj := judge_any (own9 short) (some ⟨w1.heap.size + 1, 0, none⟩) 1 1 [⟨17, ⟨#[a, b]⟩⟩] ((w1.alloc (.cells (own9 short).cells 23)).alloc (.cells #[.int .i64 17, .string ⟨#[a, b]⟩] 36)) (reads_one' (w1.alloc (.cells (own9 short).cells 23)) ⟨17, ⟨#[a, b]⟩⟩ _ (by simp)) rfl (by omega) (by omega)
          have hE : judgeD (own9 short) [⟨17, ⟨#[a, b]⟩⟩] = (1, [⟨17, (numB 1500 2)⟩], 0) := judge9_nak short ⟨17, ⟨#[a, b]⟩⟩ (by simp [fitB, ByteArray.size]) (by simp [badB, rightB, sizeK, twiceB, ByteArray.size]) (by rw [show (betterD (own9 short) ⟨17, ⟨#[a, b]⟩⟩).2 = !unitB (valB ⟨#[a, b]⟩) from rfl, valB_two]; simp [unitB]; omega)
          rw [hE] at hj
          refine hj.mono ?_
          rintro e w2 ⟨v2, rfl, hk2⟩
          have own2 := hk2.own
          rw [hE] at own2
          obtain ⟨g2, cap2, rfl, hg2, hgl2, hnc2, hm2, hcell2⟩ := own_some own2 (by simp)
          have q0 : w2.cell? ⟨g2, 0, none⟩ = some (.int .i64 17) := hcell2 0 _ rfl
          have q1 : w2.cell? ⟨g2, 1, none⟩ = some (.string (numB 1500 2)) := hcell2 1 _ rfl
          have hw2 := Lib.hid (below_trans' ((hw1.out.alloc hw1.out.size (.cells (own9 short).cells 23)).alloc (by have := hw1.out.size; simp; omega) (.cells #[.int .i64 17, .string ⟨#[a, b]⟩] 36)) (by have := hw1.out.size; simp; omega) hk2.below)
          clear hj hE hk2 own2 hcell2 hg2 hm2 hw1
          go_wp2_with (go_at_call 11; refine (num_any _ _).mono ?_; rintro e w' ⟨rfl, rfl⟩)
          go_quiet (fail)
          rw [two_at]
          go_wp2_with (go_at_call 11; refine (num_any _ _).mono ?_; rintro e w' ⟨rfl, rfl⟩)
          go_ret
          exact ⟨rfl, below_drewN hw2.out _⟩
      · have hj := judge_any (own9 short) (some ⟨w1.heap.size + 1, 0, none⟩) 1 1 [⟨17, D⟩] ((w1.alloc (.cells (own9 short).cells 23)).alloc (.cells #[.int .i64 17, .string D] 36)) (reads_one' (w1.alloc (.cells (own9 short).cells 23)) ⟨17, D⟩ _ (by simp)) rfl (by omega) (by omega)
        have hE : judgeD (own9 short) [⟨17, D⟩] = (2, [⟨17, D⟩], 0) := judge9_bad short ⟨17, D⟩ (by simp [fitB]; omega) (by simp [badB, rightB, sizeK]; omega)
        rw [hE] at hj
        refine hj.mono ?_
        rintro e w2 ⟨v2, rfl, hk2⟩
        have own2 := hk2.own
        rw [hE] at own2
        obtain ⟨g2, cap2, rfl, hg2, hgl2, hnc2, hm2, hcell2⟩ := own_some own2 (by simp)
        have q0 : w2.cell? ⟨g2, 0, none⟩ = some (.int .i64 17) := hcell2 0 _ rfl
        have q1 : w2.cell? ⟨g2, 1, none⟩ = some (.string D) := hcell2 1 _ rfl
        have hw2 := Lib.hid (below_trans' ((hw1.out.alloc hw1.out.size (.cells (own9 short).cells 23)).alloc (by have := hw1.out.size; simp; omega) (.cells #[.int .i64 17, .string D] 36)) (by have := hw1.out.size; simp; omega) hk2.below)
        clear hj hE hk2 own2 hcell2 hg2 hm2 hw1
        go_wp2_with (go_at_call 11; refine (num_any _ _).mono ?_; rintro e w' ⟨rfl, rfl⟩)
        go_ret
        exact ⟨rfl, hw2.out⟩
    by_cases k5 : K = 5
    · subst k5
      by_cases hs : D.size = 4
      · by_cases h0 : D = ⟨#[0, 0, 0, 0]⟩
        · subst h0
          have hj := judge_any (own9 short) (some ⟨w1.heap.size + 1, 0, none⟩) 1 1 [⟨5, ⟨#[0, 0, 0, 0]⟩⟩] ((w1.alloc (.cells (own9 short).cells 23)).alloc (.cells #[.int .i64 5, .string ⟨#[0, 0, 0, 0]⟩] 36)) (reads_one' (w1.alloc (.cells (own9 short).cells 23)) ⟨5, ⟨#[0, 0, 0, 0]⟩⟩ _ (by simp)) rfl (by omega) (by omega)
          have hE : judgeD (own9 short) [⟨5, ⟨#[0, 0, 0, 0]⟩⟩] = (1, [⟨5, (numB 4294967286 4)⟩], 0) := judge9_nak short ⟨5, ⟨#[0, 0, 0, 0]⟩⟩ (by decide) (by simp [badB, rightB, sizeK, twiceB, ByteArray.size]) (by show (valB _ == 0 || valB _ == 9) = true; decide +kernel)
          rw [hE] at hj
          refine hj.mono ?_
          rintro e w2 ⟨v2, rfl, hk2⟩
          have own2 := hk2.own
          rw [hE] at own2
          obtain ⟨g2, cap2, rfl, hg2, hgl2, hnc2, hm2, hcell2⟩ := own_some own2 (by simp)
          have q0 : w2.cell? ⟨g2, 0, none⟩ = some (.int .i64 5) := hcell2 0 _ rfl
          have q1 : w2.cell? ⟨g2, 1, none⟩ = some (.string (numB 4294967286 4)) := hcell2 1 _ rfl
          have hw2 := Lib.hid (below_trans' ((hw1.out.alloc hw1.out.size (.cells (own9 short).cells 23)).alloc (by have := hw1.out.size; simp; omega) (.cells #[.int .i64 5, .string ⟨#[0, 0, 0, 0]⟩] 36)) (by have := hw1.out.size; simp; omega) hk2.below)
          clear hj hE hk2 own2 hcell2 hg2 hm2 hw1
          go_wp2_with (go_at_call 11; refine (num_any _ _).mono ?_; rintro e w' ⟨rfl, rfl⟩)
          go_ret
          exact ⟨rfl, hw2.out⟩
        by_cases h9 : D = ⟨#[0, 0, 0, 9]⟩
        · subst h9
          have hj := judge_any (own9 short) (some ⟨w1.heap.size + 1, 0, none⟩) 1 1 [⟨5, ⟨#[0, 0, 0, 9]⟩⟩] ((w1.alloc (.cells (own9 short).cells 23)).alloc (.cells #[.int .i64 5, .string ⟨#[0, 0, 0, 9]⟩] 36)) (reads_one' (w1.alloc (.cells (own9 short).cells 23)) ⟨5, ⟨#[0, 0, 0, 9]⟩⟩ _ (by simp)) rfl (by omega) (by omega)
          have hE : judgeD (own9 short) [⟨5, ⟨#[0, 0, 0, 9]⟩⟩] = (1, [⟨5, (numB 4294967286 4)⟩], 0) := judge9_nak short ⟨5, ⟨#[0, 0, 0, 9]⟩⟩ (by decide) (by simp [badB, rightB, sizeK, twiceB, ByteArray.size]) (by show (valB _ == 0 || valB _ == 9) = true; decide +kernel)
          rw [hE] at hj
          refine hj.mono ?_
          rintro e w2 ⟨v2, rfl, hk2⟩
          have own2 := hk2.own
          rw [hE] at own2
          obtain ⟨g2, cap2, rfl, hg2, hgl2, hnc2, hm2, hcell2⟩ := own_some own2 (by simp)
          have q0 : w2.cell? ⟨g2, 0, none⟩ = some (.int .i64 5) := hcell2 0 _ rfl
          have q1 : w2.cell? ⟨g2, 1, none⟩ = some (.string (numB 4294967286 4)) := hcell2 1 _ rfl
          have hw2 := Lib.hid (below_trans' ((hw1.out.alloc hw1.out.size (.cells (own9 short).cells 23)).alloc (by have := hw1.out.size; simp; omega) (.cells #[.int .i64 5, .string ⟨#[0, 0, 0, 9]⟩] 36)) (by have := hw1.out.size; simp; omega) hk2.below)
          clear hj hE hk2 own2 hcell2 hg2 hm2 hw1
          go_wp2_with (go_at_call 11; refine (num_any _ _).mono ?_; rintro e w' ⟨rfl, rfl⟩)
          go_ret
          exact ⟨rfl, hw2.out⟩
        have ht0 : (D.toList == [0, 0, 0, 0]) = false := by simpa using toList_ne (l := [0, 0, 0, 0]) h0
        have ht9 : (D.toList == [0, 0, 0, 9]) = false := by simpa using toList_ne (l := [0, 0, 0, 9]) h9
        have hj := judge_any (own9 short) (some ⟨w1.heap.size + 1, 0, none⟩) 1 1 [⟨5, D⟩] ((w1.alloc (.cells (own9 short).cells 23)).alloc (.cells #[.int .i64 5, .string D] 36)) (reads_one' (w1.alloc (.cells (own9 short).cells 23)) ⟨5, D⟩ _ (by simp)) rfl (by omega) (by omega)
        have hE : judgeD (own9 short) [⟨5, D⟩] = (0, [⟨5, D⟩], 0) := judge9_ok short ⟨5, D⟩ (by simp [fitB]; omega) (by simp [badB, rightB, sizeK, hs, twiceB]) (better_not hs h0 h9)
        rw [hE] at hj
        refine hj.mono ?_
        rintro e w2 ⟨v2, rfl, hk2⟩
        have own2 := hk2.own
        rw [hE] at own2
        obtain ⟨g2, cap2, rfl, hg2, hgl2, hnc2, hm2, hcell2⟩ := own_some own2 (by simp)
        have q0 : w2.cell? ⟨g2, 0, none⟩ = some (.int .i64 5) := hcell2 0 _ rfl
        have q1 : w2.cell? ⟨g2, 1, none⟩ = some (.string D) := hcell2 1 _ rfl
        have hw2 := Lib.hid (below_trans' ((hw1.out.alloc hw1.out.size (.cells (own9 short).cells 23)).alloc (by have := hw1.out.size; simp; omega) (.cells #[.int .i64 5, .string D] 36)) (by have := hw1.out.size; simp; omega) hk2.below)
        clear hj hE hk2 own2 hcell2 hg2 hm2 hw1
        go_wp2_with (go_at_call 11; refine (num_any _ _).mono ?_; rintro e w' ⟨rfl, rfl⟩)
        go_ret
        exact ⟨rfl, hw2.out⟩
      · have hj := judge_any (own9 short) (some ⟨w1.heap.size + 1, 0, none⟩) 1 1 [⟨5, D⟩] ((w1.alloc (.cells (own9 short).cells 23)).alloc (.cells #[.int .i64 5, .string D] 36)) (reads_one' (w1.alloc (.cells (own9 short).cells 23)) ⟨5, D⟩ _ (by simp)) rfl (by omega) (by omega)
        have hE : judgeD (own9 short) [⟨5, D⟩] = (2, [⟨5, D⟩], 0) := judge9_bad short ⟨5, D⟩ (by simp [fitB]; omega) (by simp [badB, rightB, sizeK]; omega)
        rw [hE] at hj
        refine hj.mono ?_
        rintro e w2 ⟨v2, rfl, hk2⟩
        have own2 := hk2.own
        rw [hE] at own2
        obtain ⟨g2, cap2, rfl, hg2, hgl2, hnc2, hm2, hcell2⟩ := own_some own2 (by simp)
        have q0 : w2.cell? ⟨g2, 0, none⟩ = some (.int .i64 5) := hcell2 0 _ rfl
        have q1 : w2.cell? ⟨g2, 1, none⟩ = some (.string D) := hcell2 1 _ rfl
        have hw2 := Lib.hid (below_trans' ((hw1.out.alloc hw1.out.size (.cells (own9 short).cells 23)).alloc (by have := hw1.out.size; simp; omega) (.cells #[.int .i64 5, .string D] 36)) (by have := hw1.out.size; simp; omega) hk2.below)
        clear hj hE hk2 own2 hcell2 hg2 hm2 hw1
        go_wp2_with (go_at_call 11; refine (num_any _ _).mono ?_; rintro e w' ⟨rfl, rfl⟩)
        go_ret
        exact ⟨rfl, hw2.out⟩
    have hj := judge_any (own9 short) (some ⟨w1.heap.size + 1, 0, none⟩) 1 1 [⟨K, D⟩] ((w1.alloc (.cells (own9 short).cells 23)).alloc (.cells #[.int .i64 K, .string D] 36)) (reads_one' (w1.alloc (.cells (own9 short).cells 23)) ⟨K, D⟩ _ (by simp)) rfl (by omega) (by omega)
    have hE : judgeD (own9 short) [⟨K, D⟩] = (2, [⟨K, D⟩], 0) := judge9_bad short ⟨K, D⟩ (by simp [fitB]; omega) (by simp [badB, rightB, sizeK, k23, k19, k18, k1, k17, k5])
    rw [hE] at hj
    refine hj.mono ?_
    rintro e w2 ⟨v2, rfl, hk2⟩
    have own2 := hk2.own
    rw [hE] at own2
    obtain ⟨g2, cap2, rfl, hg2, hgl2, hnc2, hm2, hcell2⟩ := own_some own2 (by simp)
    have q0 : w2.cell? ⟨g2, 0, none⟩ = some (.int .i64 K) := hcell2 0 _ rfl
    have q1 : w2.cell? ⟨g2, 1, none⟩ = some (.string D) := hcell2 1 _ rfl
    have hw2 := Lib.hid (below_trans' ((hw1.out.alloc hw1.out.size (.cells (own9 short).cells 23)).alloc (by have := hw1.out.size; simp; omega) (.cells #[.int .i64 K, .string D] 36)) (by have := hw1.out.size; simp; omega) hk2.below)
    clear hj hE hk2 own2 hcell2 hg2 hm2 hw1
    go_wp2_with (go_at_call 11; refine (num_any _ _).mono ?_; rintro e w' ⟨rfl, rfl⟩)
    go_ret
    exact ⟨rfl, hw2.out⟩
  · go_wp2_with fail
    have hD : data.size ≤ 40 := by omega
    generalize data = D at *
    generalize wrap64 ((IntKind.u64.wrap kind).tmod 30) = K at *
    clear h40
    by_cases k23 : K = 23
    · subst k23
      by_cases hs : D.size = 2
      · have hj := judge_any (own9 short) (some ⟨w1.heap.size + 1, 0, none⟩) 1 1 [⟨23, D⟩] ((w1.alloc (.cells (own9 short).cells 23)).alloc (.cells #[.int .i64 23, .string D] 36)) (reads_one' (w1.alloc (.cells (own9 short).cells 23)) ⟨23, D⟩ _ (by simp)) rfl (by omega) (by omega)
        have hE : judgeD (own9 short) [⟨23, D⟩] = (0, [⟨23, D⟩], 0) := judge9_ok short ⟨23, D⟩ (by simp [fitB]; omega) (by simp [badB, rightB, sizeK, hs, twiceB]) (by simp [betterD])
        rw [hE] at hj
        refine hj.mono ?_
        rintro e w2 ⟨v2, rfl, hk2⟩
        have own2 := hk2.own
        rw [hE] at own2
        obtain ⟨g2, cap2, rfl, hg2, hgl2, hnc2, hm2, hcell2⟩ := own_some own2 (by simp)
        have q0 : w2.cell? ⟨g2, 0, none⟩ = some (.int .i64 23) := hcell2 0 _ rfl
        have q1 : w2.cell? ⟨g2, 1, none⟩ = some (.string D) := hcell2 1 _ rfl
        have hw2 := Lib.hid (below_trans' ((hw1.out.alloc hw1.out.size (.cells (own9 short).cells 23)).alloc (by have := hw1.out.size; simp; omega) (.cells #[.int .i64 23, .string D] 36)) (by have := hw1.out.size; simp; omega) hk2.below)
        clear hj hE hk2 own2 hcell2 hg2 hm2 hw1
        go_wp2_with (go_at_call 11; refine (num_any _ _).mono ?_; rintro e w' ⟨rfl, rfl⟩)
        go_ret
        exact ⟨rfl, hw2.out⟩
      · have hj := judge_any (own9 short) (some ⟨w1.heap.size + 1, 0, none⟩) 1 1 [⟨23, D⟩] ((w1.alloc (.cells (own9 short).cells 23)).alloc (.cells #[.int .i64 23, .string D] 36)) (reads_one' (w1.alloc (.cells (own9 short).cells 23)) ⟨23, D⟩ _ (by simp)) rfl (by omega) (by omega)
        have hE : judgeD (own9 short) [⟨23, D⟩] = (2, [⟨23, D⟩], 0) := judge9_bad short ⟨23, D⟩ (by simp [fitB]; omega) (by simp [badB, rightB, sizeK]; omega)
        rw [hE] at hj
        refine hj.mono ?_
        rintro e w2 ⟨v2, rfl, hk2⟩
        have own2 := hk2.own
        rw [hE] at own2
        obtain ⟨g2, cap2, rfl, hg2, hgl2, hnc2, hm2, hcell2⟩ := own_some own2 (by simp)
        have q0 : w2.cell? ⟨g2, 0, none⟩ = some (.int .i64 23) := hcell2 0 _ rfl
        have q1 : w2.cell? ⟨g2, 1, none⟩ = some (.string D) := hcell2 1 _ rfl
        have hw2 := Lib.hid (below_trans' ((hw1.out.alloc hw1.out.size (.cells (own9 short).cells 23)).alloc (by have := hw1.out.size; simp; omega) (.cells #[.int .i64 23, .string D] 36)) (by have := hw1.out.size; simp; omega) hk2.below)
        clear hj hE hk2 own2 hcell2 hg2 hm2 hw1
        go_wp2_with (go_at_call 11; refine (num_any _ _).mono ?_; rintro e w' ⟨rfl, rfl⟩)
        go_ret
        exact ⟨rfl, hw2.out⟩
    by_cases k19 : K = 19
    · subst k19
      by_cases hs : 1 ≤ D.size
      · by_cases hs2 : D.size ≤ 20
        · have hj := judge_any (own9 short) (some ⟨w1.heap.size + 1, 0, none⟩) 1 1 [⟨19, D⟩] ((w1.alloc (.cells (own9 short).cells 23)).alloc (.cells #[.int .i64 19, .string D] 36)) (reads_one' (w1.alloc (.cells (own9 short).cells 23)) ⟨19, D⟩ _ (by simp)) rfl (by omega) (by omega)
          have hE : judgeD (own9 short) [⟨19, D⟩] = (0, [⟨19, D⟩], 0) := judge9_ok short ⟨19, D⟩ (by simp [fitB]; omega) (by simp [badB, rightB, sizeK, hs, hs2, twiceB]) (by simp [betterD])
          rw [hE] at hj
          refine hj.mono ?_
          rintro e w2 ⟨v2, rfl, hk2⟩
          have own2 := hk2.own
          rw [hE] at own2
          obtain ⟨g2, cap2, rfl, hg2, hgl2, hnc2, hm2, hcell2⟩ := own_some own2 (by simp)
          have q0 : w2.cell? ⟨g2, 0, none⟩ = some (.int .i64 19) := hcell2 0 _ rfl
          have q1 : w2.cell? ⟨g2, 1, none⟩ = some (.string D) := hcell2 1 _ rfl
          have hw2 := Lib.hid (below_trans' ((hw1.out.alloc hw1.out.size (.cells (own9 short).cells 23)).alloc (by have := hw1.out.size; simp; omega) (.cells #[.int .i64 19, .string D] 36)) (by have := hw1.out.size; simp; omega) hk2.below)
          clear hj hE hk2 own2 hcell2 hg2 hm2 hw1
          go_wp2_with (go_at_call 11; refine (num_any _ _).mono ?_; rintro e w' ⟨rfl, rfl⟩)
          go_ret
          exact ⟨rfl, hw2.out⟩
        · have hj := judge_any (own9 short) (some ⟨w1.heap.size + 1, 0, none⟩) 1 1 [⟨19, D⟩] ((w1.alloc (.cells (own9 short).cells 23)).alloc (.cells #[.int .i64 19, .string D] 36)) (reads_one' (w1.alloc (.cells (own9 short).cells 23)) ⟨19, D⟩ _ (by simp)) rfl (by omega) (by omega)
          have hE : judgeD (own9 short) [⟨19, D⟩] = (2, [⟨19, D⟩], 0) := judge9_bad short ⟨19, D⟩ (by simp [fitB]; omega) (bad_19 (by omega))
          rw [hE] at hj
          refine hj.mono ?_
          rintro e w2 ⟨v2, rfl, hk2⟩
          have own2 := hk2.own
          rw [hE] at own2
          obtain ⟨g2, cap2, rfl, hg2, hgl2, hnc2, hm2, hcell2⟩ := own_some own2 (by simp)
          have q0 : w2.cell? ⟨g2, 0, none⟩ = some (.int .i64 19) := hcell2 0 _ rfl
          have q1 : w2.cell? ⟨g2, 1, none⟩ = some (.string D) := hcell2 1 _ rfl
          have hw2 := Lib.hid (below_trans' ((hw1.out.alloc hw1.out.size (.cells (own9 short).cells 23)).alloc (by have := hw1.out.size; simp; omega) (.cells #[.int .i64 19, .string D] 36)) (by have := hw1.out.size; simp; omega) hk2.below)
          clear hj hE hk2 own2 hcell2 hg2 hm2 hw1
          go_wp2_with (go_at_call 11; refine (num_any _ _).mono ?_; rintro e w' ⟨rfl, rfl⟩)
          go_ret
          exact ⟨rfl, hw2.out⟩
      · have hj := judge_any (own9 short) (some ⟨w1.heap.size + 1, 0, none⟩) 1 1 [⟨19, D⟩] ((w1.alloc (.cells (own9 short).cells 23)).alloc (.cells #[.int .i64 19, .string D] 36)) (reads_one' (w1.alloc (.cells (own9 short).cells 23)) ⟨19, D⟩ _ (by simp)) rfl (by omega) (by omega)
        have hE : judgeD (own9 short) [⟨19, D⟩] = (2, [⟨19, D⟩], 0) := judge9_bad short ⟨19, D⟩ (by simp [fitB]; omega) (bad_19 (by omega))
        rw [hE] at hj
        refine hj.mono ?_
        rintro e w2 ⟨v2, rfl, hk2⟩
        have own2 := hk2.own
        rw [hE] at own2
        obtain ⟨g2, cap2, rfl, hg2, hgl2, hnc2, hm2, hcell2⟩ := own_some own2 (by simp)
        have q0 : w2.cell? ⟨g2, 0, none⟩ = some (.int .i64 19) := hcell2 0 _ rfl
        have q1 : w2.cell? ⟨g2, 1, none⟩ = some (.string D) := hcell2 1 _ rfl
        have hw2 := Lib.hid (below_trans' ((hw1.out.alloc hw1.out.size (.cells (own9 short).cells 23)).alloc (by have := hw1.out.size; simp; omega) (.cells #[.int .i64 19, .string D] 36)) (by have := hw1.out.size; simp; omega) hk2.below)
        clear hj hE hk2 own2 hcell2 hg2 hm2 hw1
        go_wp2_with (go_at_call 11; refine (num_any _ _).mono ?_; rintro e w' ⟨rfl, rfl⟩)
        go_ret
        exact ⟨rfl, hw2.out⟩
    by_cases k18 : K = 18
    · subst k18
      by_cases hs : D = ⟨#[]⟩
      · subst hs
        rcases short with _ | _
        · have hj := judge_any (own9 false) (some ⟨w1.heap.size + 1, 0, none⟩) 1 1 [⟨18, ⟨#[]⟩⟩] ((w1.alloc (.cells (own9 false).cells 23)).alloc (.cells #[.int .i64 18, .string ⟨#[]⟩] 36)) (reads_one' (w1.alloc (.cells (own9 false).cells 23)) ⟨18, ⟨#[]⟩⟩ _ (by simp)) rfl (by omega) (by omega)
          have hE : judgeD (own9 false) [⟨18, ⟨#[]⟩⟩] = (2, [⟨18, ⟨#[]⟩⟩], 0) := judge9_bad false ⟨18, ⟨#[]⟩⟩ (by decide) (by decide)
          rw [hE] at hj
          refine hj.mono ?_
          rintro e w2 ⟨v2, rfl, hk2⟩
          have own2 := hk2.own
          rw [hE] at own2
          obtain ⟨g2, cap2, rfl, hg2, hgl2, hnc2, hm2, hcell2⟩ := own_some own2 (by simp)
          have q0 : w2.cell? ⟨g2, 0, none⟩ = some (.int .i64 18) := hcell2 0 _ rfl
          have q1 : w2.cell? ⟨g2, 1, none⟩ = some (.string ⟨#[]⟩) := hcell2 1 _ rfl
          have hw2 := Lib.hid (below_trans' ((hw1.out.alloc hw1.out.size (.cells (own9 false).cells 23)).alloc (by have := hw1.out.size; simp; omega) (.cells #[.int .i64 18, .string ⟨#[]⟩] 36)) (by have := hw1.out.size; simp; omega) hk2.below)
          clear hj hE hk2 own2 hcell2 hg2 hm2 hw1
          go_wp2_with (go_at_call 11; refine (num_any _ _).mono ?_; rintro e w' ⟨rfl, rfl⟩)
          go_ret
          exact ⟨rfl, hw2.out⟩
        · have hj := judge_any (own9 true) (some ⟨w1.heap.size + 1, 0, none⟩) 1 1 [⟨18, ⟨#[]⟩⟩] ((w1.alloc (.cells (own9 true).cells 23)).alloc (.cells #[.int .i64 18, .string ⟨#[]⟩] 36)) (reads_one' (w1.alloc (.cells (own9 true).cells 23)) ⟨18, ⟨#[]⟩⟩ _ (by simp)) rfl (by omega) (by omega)
          have hE : judgeD (own9 true) [⟨18, ⟨#[]⟩⟩] = (0, [⟨18, ⟨#[]⟩⟩], 0) := judge9_ok true ⟨18, ⟨#[]⟩⟩ (by decide) (by decide) (by decide)
          rw [hE] at hj
          refine hj.mono ?_
          rintro e w2 ⟨v2, rfl, hk2⟩
          have own2 := hk2.own
          rw [hE] at own2
          obtain ⟨g2, cap2, rfl, hg2, hgl2, hnc2, hm2, hcell2⟩ := own_some own2 (by simp)
          have q0 : w2.cell? ⟨g2, 0, none⟩ = some (.int .i64 18) := hcell2 0 _ rfl
          have q1 : w2.cell? ⟨g2, 1, none⟩ = some (.string ⟨#[]⟩) := hcell2 1 _ rfl
          have hw2 := Lib.hid (below_trans' ((hw1.out.alloc hw1.out.size (.cells (own9 true).cells 23)).alloc (by have := hw1.out.size; simp; omega) (.cells #[.int .i64 18, .string ⟨#[]⟩] 36)) (by have := hw1.out.size; simp; omega) hk2.below)
          clear hj hE hk2 own2 hcell2 hg2 hm2 hw1
          go_wp2_with (go_at_call 11; refine (num_any _ _).mono ?_; rintro e w' ⟨rfl, rfl⟩)
          go_ret
          exact ⟨rfl, hw2.out⟩
      · have hz := size_pos hs
        have ht := toList_ne (l := []) hs
        rcases short with _ | _
        · have hj := judge_any (own9 false) (some ⟨w1.heap.size + 1, 0, none⟩) 1 1 [⟨18, D⟩] ((w1.alloc (.cells (own9 false).cells 23)).alloc (.cells #[.int .i64 18, .string D] 36)) (reads_one' (w1.alloc (.cells (own9 false).cells 23)) ⟨18, D⟩ _ (by simp)) rfl (by omega) (by omega)
          have hE : judgeD (own9 false) [⟨18, D⟩] = (2, [⟨18, D⟩], 0) := judge9_bad false ⟨18, D⟩ (by simp [fitB]; omega) (by simp [badB, rightB, sizeK]; omega)
          rw [hE] at hj
          refine hj.mono ?_
          rintro e w2 ⟨v2, rfl, hk2⟩
          have own2 := hk2.own
          rw [hE] at own2
          obtain ⟨g2, cap2, rfl, hg2, hgl2, hnc2, hm2, hcell2⟩ := own_some own2 (by simp)
          have q0 : w2.cell? ⟨g2, 0, none⟩ = some (.int .i64 18) := hcell2 0 _ rfl
          have q1 : w2.cell? ⟨g2, 1, none⟩ = some (.string D) := hcell2 1 _ rfl
          have hw2 := Lib.hid (below_trans' ((hw1.out.alloc hw1.out.size (.cells (own9 false).cells 23)).alloc (by have := hw1.out.size; simp; omega) (.cells #[.int .i64 18, .string D] 36)) (by have := hw1.out.size; simp; omega) hk2.below)
          clear hj hE hk2 own2 hcell2 hg2 hm2 hw1
          go_wp2_with (go_at_call 11; refine (num_any _ _).mono ?_; rintro e w' ⟨rfl, rfl⟩)
          go_ret
          exact ⟨rfl, hw2.out⟩
        · have hj := judge_any (own9 true) (some ⟨w1.heap.size + 1, 0, none⟩) 1 1 [⟨18, D⟩] ((w1.alloc (.cells (own9 true).cells 23)).alloc (.cells #[.int .i64 18, .string D] 36)) (reads_one' (w1.alloc (.cells (own9 true).cells 23)) ⟨18, D⟩ _ (by simp)) rfl (by omega) (by omega)
          have hE : judgeD (own9 true) [⟨18, D⟩] = (2, [⟨18, D⟩], 0) := judge9_bad true ⟨18, D⟩ (by simp [fitB]; omega) (by simp [badB, rightB, sizeK]; omega)
          rw [hE] at hj
          refine hj.mono ?_
          rintro e w2 ⟨v2, rfl, hk2⟩
          have own2 := hk2.own
          rw [hE] at own2
          obtain ⟨g2, cap2, rfl, hg2, hgl2, hnc2, hm2, hcell2⟩ := own_some own2 (by simp)
          have q0 : w2.cell? ⟨g2, 0, none⟩ = some (.int .i64 18) := hcell2 0 _ rfl
          have q1 : w2.cell? ⟨g2, 1, none⟩ = some (.string D) := hcell2 1 _ rfl
          have hw2 := Lib.hid (below_trans' ((hw1.out.alloc hw1.out.size (.cells (own9 true).cells 23)).alloc (by have := hw1.out.size; simp; omega) (.cells #[.int .i64 18, .string D] 36)) (by have := hw1.out.size; simp; omega) hk2.below)
          clear hj hE hk2 own2 hcell2 hg2 hm2 hw1
          go_wp2_with (go_at_call 11; refine (num_any _ _).mono ?_; rintro e w' ⟨rfl, rfl⟩)
          go_ret
          exact ⟨rfl, hw2.out⟩
    by_cases k1 : K = 1
    · subst k1
      by_cases hs : D.size = 2
      · obtain ⟨a, b, rfl⟩ := bytes_two hs
        have ha := a.toNat_lt
        have hb := b.toNat_lt
        by_cases h1 : 128 ≤ a.toNat * 256 + b.toNat
        · by_cases h2 : a.toNat * 256 + b.toNat ≤ 1500
          · have hj := judge_any (own9 short) (some ⟨w1.heap.size + 1, 0, none⟩) 1 1 [⟨1, ⟨#[a, b]⟩⟩] ((w1.alloc (.cells (own9 short).cells 23)).alloc (.cells #[.int .i64 1, .string ⟨#[a, b]⟩] 36)) (reads_one' (w1.alloc (.cells (own9 short).cells 23)) ⟨1, ⟨#[a, b]⟩⟩ _ (by simp)) rfl (by omega) (by omega)
            have hE : judgeD (own9 short) [⟨1, ⟨#[a, b]⟩⟩] = (0, [⟨1, ⟨#[a, b]⟩⟩], 0) := judge9_ok short ⟨1, ⟨#[a, b]⟩⟩ (by simp [fitB, ByteArray.size]) (by simp [badB, rightB, sizeK, twiceB, ByteArray.size]) (by rw [show (betterD (own9 short) ⟨1, ⟨#[a, b]⟩⟩).2 = !unitB (valB ⟨#[a, b]⟩) from rfl, valB_two]; simp [unitB]; omega)
            rw [hE] at hj
            refine hj.mono ?_
            rintro e w2 ⟨v2, rfl, hk2⟩
            have own2 := hk2.own
            rw [hE] at own2
            obtain ⟨g2, cap2, rfl, hg2, hgl2, hnc2, hm2, hcell2⟩ := own_some own2 (by simp)
            have q0 : w2.cell? ⟨g2, 0, none⟩ = some (.int .i64 1) := hcell2 0 _ rfl
            have q1 : w2.cell? ⟨g2, 1, none⟩ = some (.string ⟨#[a, b]⟩) := hcell2 1 _ rfl
            have hw2 := Lib.hid (below_trans' ((hw1.out.alloc hw1.out.size (.cells (own9 short).cells 23)).alloc (by have := hw1.out.size; simp; omega) (.cells #[.int .i64 1, .string ⟨#[a, b]⟩] 36)) (by have := hw1.out.size; simp; omega) hk2.below)
            clear hj hE hk2 own2 hcell2 hg2 hm2 hw1
            go_wp2_with (go_at_call 11; refine (num_any _ _).mono ?_; rintro e w' ⟨rfl, rfl⟩)
            go_quiet (fail)
            rw [two_at]
            go_wp2_with (go_at_call 11; refine (num_any _ _).mono ?_; rintro e w' ⟨rfl, rfl⟩)
            go_ret
            exact ⟨rfl, below_drewN hw2.out _⟩
          · have hj := judge_any (own9 short) (some ⟨w1.heap.size + 1, 0, none⟩) 1 1 [⟨1, ⟨#[a, b]⟩⟩] ((w1.alloc (.cells (own9 short).cells 23)).alloc (.cells #[.int .i64 1, .string ⟨#[a, b]⟩] 36)) (reads_one' (w1.alloc (.cells (own9 short).cells 23)) ⟨1, ⟨#[a, b]⟩⟩ _ (by simp)) rfl (by omega) (by omega)
            have hE : judgeD (own9 short) [⟨1, ⟨#[a, b]⟩⟩] = (1, [⟨1, (numB 1500 2)⟩], 0) := judge9_nak short ⟨1, ⟨#[a, b]⟩⟩ (by simp [fitB, ByteArray.size]) (by simp [badB, rightB, sizeK, twiceB, ByteArray.size]) (by rw [show (betterD (own9 short) ⟨1, ⟨#[a, b]⟩⟩).2 = !unitB (valB ⟨#[a, b]⟩) from rfl, valB_two]; simp [unitB]; omega)
            rw [hE] at hj
            refine hj.mono ?_
            rintro e w2 ⟨v2, rfl, hk2⟩
            have own2 := hk2.own
            rw [hE] at own2
            obtain ⟨g2, cap2, rfl, hg2, hgl2, hnc2, hm2, hcell2⟩ := own_some own2 (by simp)
            have q0 : w2.cell? ⟨g2, 0, none⟩ = some (.int .i64 1) := hcell2 0 _ rfl
            have q1 : w2.cell? ⟨g2, 1, none⟩ = some (.string (numB 1500 2)) := hcell2 1 _ rfl
            have hw2 := Lib.hid (below_trans' ((hw1.out.alloc hw1.out.size (.cells (own9 short).cells 23)).alloc (by have := hw1.out.size; simp; omega) (.cells #[.int .i64 1, .string ⟨#[a, b]⟩] 36)) (by have := hw1.out.size; simp; omega) hk2.below)
            clear hj hE hk2 own2 hcell2 hg2 hm2 hw1
            go_wp2_with (go_at_call 11; refine (num_any _ _).mono ?_; rintro e w' ⟨rfl, rfl⟩)
            go_quiet (fail)
            rw [two_at]
            go_wp2_with (go_at_call 11; refine (num_any _ _).mono ?_; rintro e w' ⟨rfl, rfl⟩)
            go_ret
            exact ⟨rfl, below_drewN hw2.out _⟩
        · have hj := judge_any (own9 short) (some ⟨w1.heap.size + 1, 0, none⟩) 1 1 [⟨1, ⟨#[a, b]⟩⟩] ((w1.alloc (.cells (own9 short).cells 23)).alloc (.cells #[.int .i64 1, .string ⟨#[a, b]⟩] 36)) (reads_one' (w1.alloc (.cells (own9 short).cells 23)) ⟨1, ⟨#[a, b]⟩⟩ _ (by simp)) rfl (by omega) (by omega)
          have hE : judgeD (own9 short) [⟨1, ⟨#[a, b]⟩⟩] = (1, [⟨1, (numB 1500 2)⟩], 0) := judge9_nak short ⟨1, ⟨#[a, b]⟩⟩ (by simp [fitB, ByteArray.size]) (by simp [badB, rightB, sizeK, twiceB, ByteArray.size]) (by rw [show (betterD (own9 short) ⟨1, ⟨#[a, b]⟩⟩).2 = !unitB (valB ⟨#[a, b]⟩) from rfl, valB_two]; simp [unitB]; omega)
          rw [hE] at hj
          refine hj.mono ?_
          rintro e w2 ⟨v2, rfl, hk2⟩
          have own2 := hk2.own
          rw [hE] at own2
          obtain ⟨g2, cap2, rfl, hg2, hgl2, hnc2, hm2, hcell2⟩ := own_some own2 (by simp)
          have q0 : w2.cell? ⟨g2, 0, none⟩ = some (.int .i64 1) := hcell2 0 _ rfl
          have q1 : w2.cell? ⟨g2, 1, none⟩ = some (.string (numB 1500 2)) := hcell2 1 _ rfl
          have hw2 := Lib.hid (below_trans' ((hw1.out.alloc hw1.out.size (.cells (own9 short).cells 23)).alloc (by have := hw1.out.size; simp; omega) (.cells #[.int .i64 1, .string ⟨#[a, b]⟩] 36)) (by have := hw1.out.size; simp; omega) hk2.below)
          clear hj hE hk2 own2 hcell2 hg2 hm2 hw1
          go_wp2_with (go_at_call 11; refine (num_any _ _).mono ?_; rintro e w' ⟨rfl, rfl⟩)
          go_quiet (fail)
          rw [two_at]
          go_wp2_with (go_at_call 11; refine (num_any _ _).mono ?_; rintro e w' ⟨rfl, rfl⟩)
          go_ret
          exact ⟨rfl, below_drewN hw2.out _⟩
      · have hj := judge_any (own9 short) (some ⟨w1.heap.size + 1, 0, none⟩) 1 1 [⟨1, D⟩] ((w1.alloc (.cells (own9 short).cells 23)).alloc (.cells #[.int .i64 1, .string D] 36)) (reads_one' (w1.alloc (.cells (own9 short).cells 23)) ⟨1, D⟩ _ (by simp)) rfl (by omega) (by omega)
        have hE : judgeD (own9 short) [⟨1, D⟩] = (2, [⟨1, D⟩], 0) := judge9_bad short ⟨1, D⟩ (by simp [fitB]; omega) (by simp [badB, rightB, sizeK]; omega)
        rw [hE] at hj
        refine hj.mono ?_
        rintro e w2 ⟨v2, rfl, hk2⟩
        have own2 := hk2.own
        rw [hE] at own2
        obtain ⟨g2, cap2, rfl, hg2, hgl2, hnc2, hm2, hcell2⟩ := own_some own2 (by simp)
        have q0 : w2.cell? ⟨g2, 0, none⟩ = some (.int .i64 1) := hcell2 0 _ rfl
        have q1 : w2.cell? ⟨g2, 1, none⟩ = some (.string D) := hcell2 1 _ rfl
        have hw2 := Lib.hid (below_trans' ((hw1.out.alloc hw1.out.size (.cells (own9 short).cells 23)).alloc (by have := hw1.out.size; simp; omega) (.cells #[.int .i64 1, .string D] 36)) (by have := hw1.out.size; simp; omega) hk2.below)
        clear hj hE hk2 own2 hcell2 hg2 hm2 hw1
        go_wp2_with (go_at_call 11; refine (num_any _ _).mono ?_; rintro e w' ⟨rfl, rfl⟩)
        go_ret
        exact ⟨rfl, hw2.out⟩
    by_cases k17 : K = 17
    · subst k17
      by_cases hs : D.size = 2
      · obtain ⟨a, b, rfl⟩ := bytes_two hs
        have ha := a.toNat_lt
        have hb := b.toNat_lt
        by_cases h1 : 128 ≤ a.toNat * 256 + b.toNat
        · by_cases h2 : a.toNat * 256 + b.toNat ≤ 1500
          · have hj := judge_any (own9 short) (some ⟨w1.heap.size + 1, 0, none⟩) 1 1 [⟨17, ⟨#[a, b]⟩⟩] ((w1.alloc (.cells (own9 short).cells 23)).alloc (.cells #[.int .i64 17, .string ⟨#[a, b]⟩] 36)) (reads_one' (w1.alloc (.cells (own9 short).cells 23)) ⟨17, ⟨#[a, b]⟩⟩ _ (by simp)) rfl (by omega) (by omega)
            have hE : judgeD (own9 short) [⟨17, ⟨#[a, b]⟩⟩] = (0, [⟨17, ⟨#[a, b]⟩⟩], 0) := judge9_ok short ⟨17, ⟨#[a, b]⟩⟩ (by simp [fitB, ByteArray.size]) (by simp [badB, rightB, sizeK, twiceB, ByteArray.size]) (by rw [show (betterD (own9 short) ⟨17, ⟨#[a, b]⟩⟩).2 = !unitB (valB ⟨#[a, b]⟩) from rfl, valB_two]; simp [unitB]; omega)
            rw [hE] at hj
            refine hj.mono ?_
            rintro e w2 ⟨v2, rfl, hk2⟩
            have own2 := hk2.own
            rw [hE] at own2
            obtain ⟨g2, cap2, rfl, hg2, hgl2, hnc2, hm2, hcell2⟩ := own_some own2 (by simp)
            have q0 : w2.cell? ⟨g2, 0, none⟩ = some (.int .i64 17) := hcell2 0 _ rfl
            have q1 : w2.cell? ⟨g2, 1, none⟩ = some (.string ⟨#[a, b]⟩) := hcell2 1 _ rfl
            have hw2 := Lib.hid (below_trans' ((hw1.out.alloc hw1.out.size (.cells (own9 short).cells 23)).alloc (by have := hw1.out.size; simp; omega) (.cells #[.int .i64 17, .string ⟨#[a, b]⟩] 36)) (by have := hw1.out.size; simp; omega) hk2.below)
            clear hj hE hk2 own2 hcell2 hg2 hm2 hw1
            go_wp2_with (go_at_call 11; refine (num_any _ _).mono ?_; rintro e w' ⟨rfl, rfl⟩)
            go_quiet (fail)
            rw [two_at]
            go_wp2_with (go_at_call 11; refine (num_any _ _).mono ?_; rintro e w' ⟨rfl, rfl⟩)
            go_ret
            exact ⟨rfl, below_drewN hw2.out _⟩
          · have hj := judge_any (own9 short) (some ⟨w1.heap.size + 1, 0, none⟩) 1 1 [⟨17, ⟨#[a, b]⟩⟩] ((w1.alloc (.cells (own9 short).cells 23)).alloc (.cells #[.int .i64 17, .string ⟨#[a, b]⟩] 36)) (reads_one' (w1.alloc (.cells (own9 short).cells 23)) ⟨17, ⟨#[a, b]⟩⟩ _ (by simp)) rfl (by omega) (by omega)
            have hE : judgeD (own9 short) [⟨17, ⟨#[a, b]⟩⟩] = (1, [⟨17, (numB 1500 2)⟩], 0) := judge9_nak short ⟨17, ⟨#[a, b]⟩⟩ (by simp [fitB, ByteArray.size]) (by simp [badB, rightB, sizeK, twiceB, ByteArray.size]) (by rw [show (betterD (own9 short) ⟨17, ⟨#[a, b]⟩⟩).2 = !unitB (valB ⟨#[a, b]⟩) from rfl, valB_two]; simp [unitB]; omega)
            rw [hE] at hj
            refine hj.mono ?_
            rintro e w2 ⟨v2, rfl, hk2⟩
            have own2 := hk2.own
            rw [hE] at own2
            obtain ⟨g2, cap2, rfl, hg2, hgl2, hnc2, hm2, hcell2⟩ := own_some own2 (by simp)
            have q0 : w2.cell? ⟨g2, 0, none⟩ = some (.int .i64 17) := hcell2 0 _ rfl
            have q1 : w2.cell? ⟨g2, 1, none⟩ = some (.string (numB 1500 2)) := hcell2 1 _ rfl
            have hw2 := Lib.hid (below_trans' ((hw1.out.alloc hw1.out.size (.cells (own9 short).cells 23)).alloc (by have := hw1.out.size; simp; omega) (.cells #[.int .i64 17, .string ⟨#[a, b]⟩] 36)) (by have := hw1.out.size; simp; omega) hk2.below)
            clear hj hE hk2 own2 hcell2 hg2 hm2 hw1
            go_wp2_with (go_at_call 11; refine (num_any _ _).mono ?_; rintro e w' ⟨rfl, rfl⟩)
            go_quiet (fail)
            rw [two_at]
            go_wp2_with (go_at_call 11; refine (num_any _ _).mono ?_; rintro e w' ⟨rfl, rfl⟩)
            go_ret
            exact ⟨rfl, below_drewN hw2.out _⟩
        · have hj := judge_any (own9 short) (some ⟨w1.heap.size + 1, 0, none⟩) 1 1 [⟨17, ⟨#[a, b]⟩⟩] ((w1.alloc (.cells (own9 short).cells 23)).alloc (.cells #[.int .i64 17, .string ⟨#[a, b]⟩] 36)) (reads_one' (w1.alloc (.cells (own9 short).cells 23)) ⟨17, ⟨#[a, b]⟩⟩ _ (by simp)) rfl (by omega) (by omega)
          have hE : judgeD (own9 short) [⟨17, ⟨#[a, b]⟩⟩] = (1, [⟨17, (numB 1500 2)⟩], 0) := judge9_nak short ⟨17, ⟨#[a, b]⟩⟩ (by simp [fitB, ByteArray.size]) (by simp [badB, rightB, sizeK, twiceB, ByteArray.size]) (by rw [show (betterD (own9 short) ⟨17, ⟨#[a, b]⟩⟩).2 = !unitB (valB ⟨#[a, b]⟩) from rfl, valB_two]; simp [unitB]; omega)
          rw [hE] at hj
          refine hj.mono ?_
          rintro e w2 ⟨v2, rfl, hk2⟩
          have own2 := hk2.own
          rw [hE] at own2
          obtain ⟨g2, cap2, rfl, hg2, hgl2, hnc2, hm2, hcell2⟩ := own_some own2 (by simp)
          have q0 : w2.cell? ⟨g2, 0, none⟩ = some (.int .i64 17) := hcell2 0 _ rfl
          have q1 : w2.cell? ⟨g2, 1, none⟩ = some (.string (numB 1500 2)) := hcell2 1 _ rfl
          have hw2 := Lib.hid (below_trans' ((hw1.out.alloc hw1.out.size (.cells (own9 short).cells 23)).alloc (by have := hw1.out.size; simp; omega) (.cells #[.int .i64 17, .string ⟨#[a, b]⟩] 36)) (by have := hw1.out.size; simp; omega) hk2.below)
          clear hj hE hk2 own2 hcell2 hg2 hm2 hw1
          go_wp2_with (go_at_call 11; refine (num_any _ _).mono ?_; rintro e w' ⟨rfl, rfl⟩)
          go_quiet (fail)
          rw [two_at]
          go_wp2_with (go_at_call 11; refine (num_any _ _).mono ?_; rintro e w' ⟨rfl, rfl⟩)
          go_ret
          exact ⟨rfl, below_drewN hw2.out _⟩
      · have hj := judge_any (own9 short) (some ⟨w1.heap.size + 1, 0, none⟩) 1 1 [⟨17, D⟩] ((w1.alloc (.cells (own9 short).cells 23)).alloc (.cells #[.int .i64 17, .string D] 36)) (reads_one' (w1.alloc (.cells (own9 short).cells 23)) ⟨17, D⟩ _ (by simp)) rfl (by omega) (by omega)
        have hE : judgeD (own9 short) [⟨17, D⟩] = (2, [⟨17, D⟩], 0) := judge9_bad short ⟨17, D⟩ (by simp [fitB]; omega) (by simp [badB, rightB, sizeK]; omega)
        rw [hE] at hj
        refine hj.mono ?_
        rintro e w2 ⟨v2, rfl, hk2⟩
        have own2 := hk2.own
        rw [hE] at own2
        obtain ⟨g2, cap2, rfl, hg2, hgl2, hnc2, hm2, hcell2⟩ := own_some own2 (by simp)
        have q0 : w2.cell? ⟨g2, 0, none⟩ = some (.int .i64 17) := hcell2 0 _ rfl
        have q1 : w2.cell? ⟨g2, 1, none⟩ = some (.string D) := hcell2 1 _ rfl
        have hw2 := Lib.hid (below_trans' ((hw1.out.alloc hw1.out.size (.cells (own9 short).cells 23)).alloc (by have := hw1.out.size; simp; omega) (.cells #[.int .i64 17, .string D] 36)) (by have := hw1.out.size; simp; omega) hk2.below)
        clear hj hE hk2 own2 hcell2 hg2 hm2 hw1
        go_wp2_with (go_at_call 11; refine (num_any _ _).mono ?_; rintro e w' ⟨rfl, rfl⟩)
        go_ret
        exact ⟨rfl, hw2.out⟩
    by_cases k5 : K = 5
    · subst k5
      by_cases hs : D.size = 4
      · by_cases h0 : D = ⟨#[0, 0, 0, 0]⟩
        · subst h0
          have hj := judge_any (own9 short) (some ⟨w1.heap.size + 1, 0, none⟩) 1 1 [⟨5, ⟨#[0, 0, 0, 0]⟩⟩] ((w1.alloc (.cells (own9 short).cells 23)).alloc (.cells #[.int .i64 5, .string ⟨#[0, 0, 0, 0]⟩] 36)) (reads_one' (w1.alloc (.cells (own9 short).cells 23)) ⟨5, ⟨#[0, 0, 0, 0]⟩⟩ _ (by simp)) rfl (by omega) (by omega)
          have hE : judgeD (own9 short) [⟨5, ⟨#[0, 0, 0, 0]⟩⟩] = (1, [⟨5, (numB 4294967286 4)⟩], 0) := judge9_nak short ⟨5, ⟨#[0, 0, 0, 0]⟩⟩ (by decide) (by simp [badB, rightB, sizeK, twiceB, ByteArray.size]) (by show (valB _ == 0 || valB _ == 9) = true; decide +kernel)
          rw [hE] at hj
          refine hj.mono ?_
          rintro e w2 ⟨v2, rfl, hk2⟩
          have own2 := hk2.own
          rw [hE] at own2
          obtain ⟨g2, cap2, rfl, hg2, hgl2, hnc2, hm2, hcell2⟩ := own_some own2 (by simp)
          have q0 : w2.cell? ⟨g2, 0, none⟩ = some (.int .i64 5) := hcell2 0 _ rfl
          have q1 : w2.cell? ⟨g2, 1, none⟩ = some (.string (numB 4294967286 4)) := hcell2 1 _ rfl
          have hw2 := Lib.hid (below_trans' ((hw1.out.alloc hw1.out.size (.cells (own9 short).cells 23)).alloc (by have := hw1.out.size; simp; omega) (.cells #[.int .i64 5, .string ⟨#[0, 0, 0, 0]⟩] 36)) (by have := hw1.out.size; simp; omega) hk2.below)
          clear hj hE hk2 own2 hcell2 hg2 hm2 hw1
          go_wp2_with (go_at_call 11; refine (num_any _ _).mono ?_; rintro e w' ⟨rfl, rfl⟩)
          go_ret
          exact ⟨rfl, hw2.out⟩
        by_cases h9 : D = ⟨#[0, 0, 0, 9]⟩
        · subst h9
          have hj := judge_any (own9 short) (some ⟨w1.heap.size + 1, 0, none⟩) 1 1 [⟨5, ⟨#[0, 0, 0, 9]⟩⟩] ((w1.alloc (.cells (own9 short).cells 23)).alloc (.cells #[.int .i64 5, .string ⟨#[0, 0, 0, 9]⟩] 36)) (reads_one' (w1.alloc (.cells (own9 short).cells 23)) ⟨5, ⟨#[0, 0, 0, 9]⟩⟩ _ (by simp)) rfl (by omega) (by omega)
          have hE : judgeD (own9 short) [⟨5, ⟨#[0, 0, 0, 9]⟩⟩] = (1, [⟨5, (numB 4294967286 4)⟩], 0) := judge9_nak short ⟨5, ⟨#[0, 0, 0, 9]⟩⟩ (by decide) (by simp [badB, rightB, sizeK, twiceB, ByteArray.size]) (by show (valB _ == 0 || valB _ == 9) = true; decide +kernel)
          rw [hE] at hj
          refine hj.mono ?_
          rintro e w2 ⟨v2, rfl, hk2⟩
          have own2 := hk2.own
          rw [hE] at own2
          obtain ⟨g2, cap2, rfl, hg2, hgl2, hnc2, hm2, hcell2⟩ := own_some own2 (by simp)
          have q0 : w2.cell? ⟨g2, 0, none⟩ = some (.int .i64 5) := hcell2 0 _ rfl
          have q1 : w2.cell? ⟨g2, 1, none⟩ = some (.string (numB 4294967286 4)) := hcell2 1 _ rfl
          have hw2 := Lib.hid (below_trans' ((hw1.out.alloc hw1.out.size (.cells (own9 short).cells 23)).alloc (by have := hw1.out.size; simp; omega) (.cells #[.int .i64 5, .string ⟨#[0, 0, 0, 9]⟩] 36)) (by have := hw1.out.size; simp; omega) hk2.below)
          clear hj hE hk2 own2 hcell2 hg2 hm2 hw1
          go_wp2_with (go_at_call 11; refine (num_any _ _).mono ?_; rintro e w' ⟨rfl, rfl⟩)
          go_ret
          exact ⟨rfl, hw2.out⟩
        have ht0 : (D.toList == [0, 0, 0, 0]) = false := by simpa using toList_ne (l := [0, 0, 0, 0]) h0
        have ht9 : (D.toList == [0, 0, 0, 9]) = false := by simpa using toList_ne (l := [0, 0, 0, 9]) h9
        have hj := judge_any (own9 short) (some ⟨w1.heap.size + 1, 0, none⟩) 1 1 [⟨5, D⟩] ((w1.alloc (.cells (own9 short).cells 23)).alloc (.cells #[.int .i64 5, .string D] 36)) (reads_one' (w1.alloc (.cells (own9 short).cells 23)) ⟨5, D⟩ _ (by simp)) rfl (by omega) (by omega)
        have hE : judgeD (own9 short) [⟨5, D⟩] = (0, [⟨5, D⟩], 0) := judge9_ok short ⟨5, D⟩ (by simp [fitB]; omega) (by simp [badB, rightB, sizeK, hs, twiceB]) (better_not hs h0 h9)
        rw [hE] at hj
        refine hj.mono ?_
        rintro e w2 ⟨v2, rfl, hk2⟩
        have own2 := hk2.own
        rw [hE] at own2
        obtain ⟨g2, cap2, rfl, hg2, hgl2, hnc2, hm2, hcell2⟩ := own_some own2 (by simp)
        have q0 : w2.cell? ⟨g2, 0, none⟩ = some (.int .i64 5) := hcell2 0 _ rfl
        have q1 : w2.cell? ⟨g2, 1, none⟩ = some (.string D) := hcell2 1 _ rfl
        have hw2 := Lib.hid (below_trans' ((hw1.out.alloc hw1.out.size (.cells (own9 short).cells 23)).alloc (by have := hw1.out.size; simp; omega) (.cells #[.int .i64 5, .string D] 36)) (by have := hw1.out.size; simp; omega) hk2.below)
        clear hj hE hk2 own2 hcell2 hg2 hm2 hw1
        go_wp2_with (go_at_call 11; refine (num_any _ _).mono ?_; rintro e w' ⟨rfl, rfl⟩)
        go_ret
        exact ⟨rfl, hw2.out⟩
      · have hj := judge_any (own9 short) (some ⟨w1.heap.size + 1, 0, none⟩) 1 1 [⟨5, D⟩] ((w1.alloc (.cells (own9 short).cells 23)).alloc (.cells #[.int .i64 5, .string D] 36)) (reads_one' (w1.alloc (.cells (own9 short).cells 23)) ⟨5, D⟩ _ (by simp)) rfl (by omega) (by omega)
        have hE : judgeD (own9 short) [⟨5, D⟩] = (2, [⟨5, D⟩], 0) := judge9_bad short ⟨5, D⟩ (by simp [fitB]; omega) (by simp [badB, rightB, sizeK]; omega)
        rw [hE] at hj
        refine hj.mono ?_
        rintro e w2 ⟨v2, rfl, hk2⟩
        have own2 := hk2.own
        rw [hE] at own2
        obtain ⟨g2, cap2, rfl, hg2, hgl2, hnc2, hm2, hcell2⟩ := own_some own2 (by simp)
        have q0 : w2.cell? ⟨g2, 0, none⟩ = some (.int .i64 5) := hcell2 0 _ rfl
        have q1 : w2.cell? ⟨g2, 1, none⟩ = some (.string D) := hcell2 1 _ rfl
        have hw2 := Lib.hid (below_trans' ((hw1.out.alloc hw1.out.size (.cells (own9 short).cells 23)).alloc (by have := hw1.out.size; simp; omega) (.cells #[.int .i64 5, .string D] 36)) (by have := hw1.out.size; simp; omega) hk2.below)
        clear hj hE hk2 own2 hcell2 hg2 hm2 hw1
        go_wp2_with (go_at_call 11; refine (num_any _ _).mono ?_; rintro e w' ⟨rfl, rfl⟩)
        go_ret
        exact ⟨rfl, hw2.out⟩
    have hj := judge_any (own9 short) (some ⟨w1.heap.size + 1, 0, none⟩) 1 1 [⟨K, D⟩] ((w1.alloc (.cells (own9 short).cells 23)).alloc (.cells #[.int .i64 K, .string D] 36)) (reads_one' (w1.alloc (.cells (own9 short).cells 23)) ⟨K, D⟩ _ (by simp)) rfl (by omega) (by omega)
    have hE : judgeD (own9 short) [⟨K, D⟩] = (2, [⟨K, D⟩], 0) := judge9_bad short ⟨K, D⟩ (by simp [fitB]; omega) (by simp [badB, rightB, sizeK, k23, k19, k18, k1, k17, k5])
    rw [hE] at hj
    refine hj.mono ?_
    rintro e w2 ⟨v2, rfl, hk2⟩
    have own2 := hk2.own
    rw [hE] at own2
    obtain ⟨g2, cap2, rfl, hg2, hgl2, hnc2, hm2, hcell2⟩ := own_some own2 (by simp)
    have q0 : w2.cell? ⟨g2, 0, none⟩ = some (.int .i64 K) := hcell2 0 _ rfl
    have q1 : w2.cell? ⟨g2, 1, none⟩ = some (.string D) := hcell2 1 _ rfl
    have hw2 := Lib.hid (below_trans' ((hw1.out.alloc hw1.out.size (.cells (own9 short).cells 23)).alloc (by have := hw1.out.size; simp; omega) (.cells #[.int .i64 K, .string D] 36)) (by have := hw1.out.size; simp; omega) hk2.below)
    clear hj hE hk2 own2 hcell2 hg2 hm2 hw1
    go_wp2_with (go_at_call 11; refine (num_any _ _).mono ?_; rintro e w' ⟨rfl, rfl⟩)
    go_ret
    exact ⟨rfl, hw2.out⟩
set_option maxRecDepth 100000 in
theorem policyKinds_lifted (os : Os) (started : os.Started) (H : Type) (enc : TypeId × Value → H) :
    ReturnsInHanded {} Try.checked os 5 .any (Rows.policyKindsSpec.pre6 enc Try.prog Try.f5 Rows.policyKindsRow.domain false) (Rows.policyKindsSpec.post enc Try.prog Try.f5 false true false false) := by
  refine returnsInHanded_of_change_sized (C := Try.checked) own_knob started (by kernel_rfl) Try.func5
    (ChangeSpec.witness6 (enc := enc) (C := Try.checked) false ⟨#[], #[.int .i64 0, .string ⟨#[]⟩, .bool false], []⟩ 8 (by kernel_rfl) (by kernel_rfl) (by kernel_rfl) (by kernel_rfl)) ?_
  intro W base args ds gs before hval0 hW hcnd hsz0 _
  have hval : ∀ (j : Nat) t v, Try.f5.params[j]? = some t → args[j]? = some v → Value.okWide Try.prog W .any base t v := hval0
  have hW' := hW
  obtain ⟨p, q, hA0, hV, rfl, hfz, hnd⟩ := hW
  have hA : DataW.TrodAll enc Try.prog W 0 (fun _ => true) true Try.f5.params.toList args.toList ds p := hA0
  have hsz : (DataW.weightsEach Try.prog (Try.f5.params.toList ++ Rows.policyKindsSpec.plain.varTypes Try.prog) (ds ++ gs)).all (· ≤ reachBytes) = true := hsz0
  rw [Try.params5] at hA hval hsz
  obtain ⟨v0, vs0, d0, ds0, p0, q0, hargs, rfl, rfl, h0, r0⟩ := trodAll_cons hA
  obtain ⟨v1, vs1, d1, ds1, p1, q1, rfl, rfl, rfl, h1, r1⟩ := trodAll_cons r0
  obtain ⟨v2, vs2, d2, ds2, p2, q2, rfl, rfl, rfl, h2, r2⟩ := trodAll_cons r1
  obtain ⟨rfl, rfl, rfl⟩ := trodAll_nil r2
  obtain rfl : args = #[v0, v1, v2] := by cases args; simp_all
  obtain ⟨rfl, rfl⟩ := trodVars_none hV
  have k0 := h0
  obtain ⟨kind, rfl, rfl, rfl, w0⟩ := open_int Try.underlying3 (hval 0 3 v0 rfl rfl) h0
  have k1 := h1
  obtain ⟨data, rfl, rfl, rfl, w1⟩ := open_string Try.underlying9 (hval 1 9 v1 rfl rfl) h1
  have z1 : data.size ≤ 140737488351232 := by
    have := sized_string hsz (j := 1) (t := 9) rfl rfl
    simpa [reachBytes] using this
  have k2 := h2
  obtain ⟨short, rfl, rfl, rfl⟩ := open_bool Try.underlying4 (hval 2 4 v2 rfl rfl) h2
  clear hA0 hval0
  refine (walk_policyKinds kind data short W z1).mono fun e W' ⟨he, bel⟩ => ?_
  subst he
  exact ⟨_, rfl, _, _, _, [], _, [], hW', trodAll_cons_mk (shut_bool Try.underlying4 _) trodAll_mk0, (trodAll_cons_mk (Below.trod laid_out (by kernel_rfl) (of_decide_eq_true (by kernel_rfl)) k0 bel (trod_below k0)) (trodAll_cons_mk (Below.trod laid_out (by kernel_rfl) (of_decide_eq_true (by kernel_rfl)) k1 bel (trod_below k1)) (trodAll_cons_mk (Below.trod laid_out (by kernel_rfl) (of_decide_eq_true (by kernel_rfl)) k2 bel (trod_below k2)) trodAll_mk0))), rfl, bel.frame _, fun h => by cases h⟩

theorem policyKinds_holds : Rows.PolicyKindsSaid :=
  OpenClaim.holds_of_wide 5 Try.f5 rfl rfl rfl rfl rfl rfl rfl ⟨rfl, rfl, rfl, rfl, rfl⟩ rfl rfl rfl rfl rfl (by kernel_rfl) Try.func5 (by kernel_rfl)
    (of_decide_eq_true (by kernel_rfl)) (by unfold Func.isWrapper; first | (rw [if_pos (by decide +kernel)]; kernel_rfl) | (rw [if_neg (by decide +kernel)]; exact ⟨rfl, rfl⟩))
    (fun os started H enc _ => policyKinds_lifted os started H enc)
#print axioms policyKinds_holds
end Go.Proofs.Ythlfghheciamcaa
