/-
  Contracts, eighth part: what options are judged to be.
  Conditions: as each states.
-/
import Derived.Test.YthlfghheciamcaaDoorK7
namespace Go.Proofs.YthlfghheciamcaaDoor
open Go.RowKit
set_option linter.unusedVariables false

def fitB (o : OptD) : Bool := decide (0 ≤ o.kind) && (decide (o.kind ≤ 255) && decide (o.data.size ≤ 253))
def badB (own : LinkD) (pre : List OptD) (o : OptD) : Bool := !rightB o || ((o.kind == 18 && !own.short) || twiceB pre o)
def judgeGo (own : LinkD) (pre : List OptD) : List OptD → List OptD → List OptD → Option (List OptD × List OptD)
  | [], bad, bet => some (bad, bet)
  | o :: os, bad, bet =>
    if fitB o then
      if badB own pre o then judgeGo own (pre ++ [o]) os (bad ++ [o]) bet
      else if (betterD own o).2 then judgeGo own (pre ++ [o]) os bad (bet ++ [(betterD own o).1])
      else judgeGo own (pre ++ [o]) os bad bet
    else none
def judgeD (own : LinkD) (os : List OptD) : Int × List OptD × Int :=
  if own.may then
    match judgeGo own [] os [] [] with
    | none => (0, [], 1400)
    | some (bad, bet) => if bad.length = 0 then (if bet.length = 0 then (0, os, 0) else (1, bet, 0)) else (2, bad, 0)
  else (0, [], 1400)
theorem judgeGo_step (own : LinkD) (os bad bet : List OptD) (m : Nat) (h : m < os.length) : judgeGo own (os.take m) (os.drop m) bad bet =
    if fitB (os[m]'h) then
      if badB own (os.take m) (os[m]'h) then judgeGo own (os.take (m + 1)) (os.drop (m + 1)) (bad ++ [os[m]'h]) bet
      else if (betterD own (os[m]'h)).2 then judgeGo own (os.take (m + 1)) (os.drop (m + 1)) bad (bet ++ [(betterD own (os[m]'h)).1])
      else judgeGo own (os.take (m + 1)) (os.drop (m + 1)) bad bet
    else none := by
  rw [List.drop_eq_getElem_cons h, judgeGo, List.take_add_one, List.getElem?_eq_getElem h]; rfl

/-- what a call of Judge comes to -/
structure Judged (own : LinkD) (os : List OptD) (w w' : World) (v : Value) : Prop where
  own : w'.ownsRow w.heap.size 79 2 v (judgeD own os).2.1.length (optCells (judgeD own os).2.1)
  below : Below w.heap.size w w'

theorem judge_no (own : LinkD) (A : Option Addr) (n c : Nat) (os : List OptD) (w : World) (h : own.may = false) :
    Calls Tryd.prog 39 #[.agg #[.int .i64 own.mru, .int .i64 own.magic, .int .i64 own.mrru, .bool own.short, .string own.disc, .int .i64 own.num], .slice A n c] w fun e w' =>
      e = .returned (.tuple #[.int .i64 0, .slice none 0 0, .int .i64 1400]) ∧ Judged own os w w' (.slice none 0 0) := by
  have HA := Lib.hid (show judgeD own os = (0, [], 1400) by unfold judgeD; rw [h]; rfl)
  go_enter Tryd.func39, Tryd.ntmps39
  go_wp2_with (go_at_call 23; refine (may_any own _).mono ?_; rintro e w1 ⟨rfl, hb1⟩)
  go_ret3
  exact ⟨rfl, by rw [HA.out]; exact World.ownsRow_nil _ _ _ _, below_trans' ((Below.refl _ _).alloc (Nat.le_refl _) _) (by simp) hb1⟩

set_option maxRecDepth 100000 in
set_option maxHeartbeats 8000000 in
theorem judge_yes (own : LinkD) (A : Option Addr) (n c : Nat) (os : List OptD) (w : World) (h : own.may = true) (hr : Reads w w.heap.size 2 A n (optCells os)) (hn : os.length = n) (hn2 : n * 24 ≤ 140737488351232) (hc : n ≤ c) :
    Calls Tryd.prog 39 #[.agg #[.int .i64 own.mru, .int .i64 own.magic, .int .i64 own.mrru, .bool own.short, .string own.disc, .int .i64 own.num], .slice A n c] w fun e w' =>
      ∃ v, e = .returned (.tuple #[.int .i64 (judgeD own os).1, v, .int .i64 (judgeD own os).2.2]) ∧ Judged own os w w' v := by
  have HM := Lib.hid h
  have hmm := h
  simp only [LinkD.may, Bool.and_eq_true, decide_eq_true_eq] at hmm
  have hm0 : 0 ≤ own.magic := hmm.2.2.1
  have hm1 : own.magic ≤ 4294967295 := hmm.2.2.2.1
  clear hmm
  go_enter Tryd.func39, Tryd.ntmps39
  go_wp2_with (go_at_call 23; refine (may_any own _).mono ?_; rintro e w1 ⟨rfl, hb1⟩; have hl1 := Blk.below (Blk.new w 23 own.cells) hb1 (by simp); have q0 : w1.cell? ⟨w.heap.size, 0, none⟩ = some (.int .i64 own.mru) := hl1.cell 0; have q1 : w1.cell? ⟨w.heap.size, 1, none⟩ = some (.int .i64 own.magic) := hl1.cell 1; have q2 : w1.cell? ⟨w.heap.size, 2, none⟩ = some (.int .i64 own.mrru) := hl1.cell 2; have q3 : w1.cell? ⟨w.heap.size, 3, none⟩ = some (.bool own.short) := hl1.cell 3; have q4 : w1.cell? ⟨w.heap.size, 4, none⟩ = some (.string own.disc) := hl1.cell 4; have q5 : w1.cell? ⟨w.heap.size, 5, none⟩ = some (.int .i64 own.num) := hl1.cell 5; have HB1 := Lib.hid hb1; have HL1 := Lib.hid hl1; clear hl1 hb1)
  clear q0 q1 q2 q3 q4 q5 h
  have hs2 : Side (w1.alloc (.cells own.cells 103)) w1.heap.size own := Blk.new w1 103 own.cells
  have hk2 : Blk (w1.alloc (.cells own.cells 103)) w.heap.size 23 own.cells := Blk.alloc HL1.out _
  have hba := below_trans' ((Below.refl w.heap.size w).alloc (Nat.le_refl _) (.cells own.cells 23)) (by simp) HB1.out
  have hb2 : Below w.heap.size w (w1.alloc (.cells own.cells 103)) := hba.alloc hba.size _
  have HS2 := Lib.hid hs2
  have HK2 := Lib.hid hk2
  have HB2 := Lib.hid hb2
  generalize w1.heap.size = b at *
  clear hs2 hk2 hba hb2 HL1 HB1
  go_loopw [8, 9, 10, 11, 12, 13, 22] (fun v u _ _ _ _ i wr => ∃ (m : Nat) (bad bet : List OptD), m ≤ n ∧ i = .int .i64 m ∧ judgeGo own [] os [] [] = judgeGo own (os.take m) (os.drop m) bad bet ∧ bad.length + bet.length ≤ m ∧
      wr.ownsRow w.heap.size 79 2 v bad.length (optCells bad) ∧ wr.ownsRow w.heap.size 79 2 u bet.length (optCells bet) ∧ Apart v u ∧ Side wr b own ∧ Blk wr w.heap.size 23 own.cells ∧ Below w.heap.size w wr)
    (fun _ _ _ _ _ _ i _ => n - (intOf i).toNat)
  case atStart => exact ⟨0, [], [], Nat.zero_le _, rfl, rfl, Nat.le_refl _, World.ownsRow_nil _ _ _ _, World.ownsRow_nil _ _ _ _, Apart.nil_left _, HS2.out, HK2.out, HB2.out⟩
  case round =>
    obtain ⟨m, bad, bet, hm, rfl, hj, hlen, ho8, ho9, hap, hs, hk, hb⟩ := hrel
    have HJ := Lib.hid hj
    have HO8 := Lib.hid ho8
    have HO9 := Lib.hid ho9
    have HAP := Lib.hid hap
    have HS := Lib.hid hs
    have HK := Lib.hid hk
    have HB := Lib.hid hb
    have hz := hb.size
    have hltb := hs.lt
    have hltk := hk.lt
    clear hj ho8 ho9 hap hs hk hb HS2 HK2 HB2
    by_cases hlt : m < n
    · obtain ⟨ad, hA, hbl, hc0, hc1⟩ := opt_at hr HB.out m (by omega) hn
      subst hA
      have HG := Lib.hid (judgeGo_step own os bad bet m (by omega))
      generalize os[m]'(by omega) = o at hc0 hc1 HG
      rcases hfit : fitB o with _ | _
      · have HN := Lib.hid (show judgeD own os = (0, [], 1400) by unfold judgeD; rw [HM.out, HJ.out, HG.out, hfit]; rfl)
        clear HG HJ
        simp only [fitB, Bool.and_eq_false_iff, decide_eq_false_iff_not] at hfit
        have hend : ∀ o', Judged own os w (wr.alloc o') (.slice none 0 0) := fun o' => ⟨by rw [HN.out]; exact World.ownsRow_nil _ _ _ _, HB.out.alloc hz _⟩
        have HEND := Lib.hid hend
        clear hend
        rcases hfit with hf | hf | hf
        · go_wp2
          go_ret3
          exact ⟨_, by rw [HN.out]; rfl, HEND.out _⟩
        · have hf0 : 0 ≤ o.kind := by omega
          go_wp2
          go_ret3
          exact ⟨_, by rw [HN.out]; rfl, HEND.out _⟩
        · by_cases hf0 : 0 ≤ o.kind
          · by_cases hf1 : o.kind ≤ 255
            · go_wp2
              go_ret3
              exact ⟨_, by rw [HN.out]; rfl, HEND.out _⟩
            · go_wp2
              go_ret3
              exact ⟨_, by rw [HN.out]; rfl, HEND.out _⟩
          · go_wp2
            go_ret3
            exact ⟨_, by rw [HN.out]; rfl, HEND.out _⟩
      · have HFIT := Lib.hid hfit
        simp only [fitB, Bool.and_eq_true, decide_eq_true_eq] at hfit
        obtain ⟨hf0, hf1, hf2⟩ := hfit
        have hrx : ∀ x : Near (wr.alloc (.cells #[.int .i64 o.kind, .string o.data] 79)), Reads x.v x.v.heap.size 2 (some ad) m (optCells (os.take m)) := fun x => by
          have hbx : Below w.heap.size w x.v := below_trans' (HB.out.alloc HB.out.size _) (by simp; omega) x.below
          have := (hr.take_ hm).below hbx
          rw [optCells_take] at this
          exact this.more hbx.size
        have HRX := Lib.hid hrx
        clear hrx
        have hln : (os.take m).length = m := by rw [List.length_take]; omega
        have HLN := Lib.hid hln
        clear hln
        have n0 := Near.cell (w := wr.alloc (.cells #[.int .i64 o.kind, .string o.data] 79)) (a := ⟨wr.heap.size, 0, none⟩) (u := .int .i64 o.kind) (by simp)
        have n1 := Near.cell (w := wr.alloc (.cells #[.int .i64 o.kind, .string o.data] 79)) (a := ⟨wr.heap.size, 1, none⟩) (u := .string o.data) (by simp)
        have n3 := Near.cell (w := wr.alloc (.cells #[.int .i64 o.kind, .string o.data] 79)) (a := ⟨w.heap.size, 3, none⟩) (u := .bool own.short) (by rw [World.cell?_alloc_lt _ _ _ hltk]; exact HK.out.cell 3)
        have hxk : ∀ x : Near (wr.alloc (.cells #[.int .i64 o.kind, .string o.data] 79)), Blk x.v w.heap.size 23 own.cells := fun x => Near.blk (Blk.alloc HK.out _) x
        have hxs : ∀ x : Near (wr.alloc (.cells #[.int .i64 o.kind, .string o.data] 79)), Side x.v b own := fun x => Near.blk (Blk.alloc HS.out _) x
        have hxb : ∀ x : Near (wr.alloc (.cells #[.int .i64 o.kind, .string o.data] 79)), Below w.heap.size w x.v := fun x => below_trans' (HB.out.alloc HB.out.size _) (by simp; omega) x.below
        have hx8 : ∀ x : Near (wr.alloc (.cells #[.int .i64 o.kind, .string o.data] 79)), x.v.ownsRow _ _ _ _ _ _ := fun x => own_below (HO8.out.alloc _) x.below
        have hx9 : ∀ x : Near (wr.alloc (.cells #[.int .i64 o.kind, .string o.data] 79)), x.v.ownsRow _ _ _ _ _ _ := fun x => own_below (HO9.out.alloc _) x.below
        have HXK := Lib.hid hxk
        have HXS := Lib.hid hxs
        have HXB := Lib.hid hxb
        have HX8 := Lib.hid hx8
        have HX9 := Lib.hid hx9
        clear hxk hxs hxb hx8 hx9
        rcases hrb : rightB o with _ | _
        · have HN := Lib.hid (show judgeGo own [] os [] [] = judgeGo own (os.take (m + 1)) (os.drop (m + 1)) (bad ++ [o]) bet by rw [HJ.out, HG.out, HFIT.out, if_pos rfl, if_pos (by unfold badB; rw [hrb]; rfl)])
          clear HG HJ
          go_wp2_with fail
          refine wp_region_near (by kernel_rfl) (by kernel_rfl) ?_
          repeat (go_big_quiet_step ((first | (go_at_call 53; exact near_of (right_any o _)))))
          refine wpQuiet_nil ?_
          intro x
          have x0 := n0 x
          have x1 := n1 x
          clear n0 n1 n3
          have hzx := (HXB.out x).size
          have h8 := Lib.hid (HX8.out x)
          go_wp2_with (at_builtin; go_must (refine wpList_push rfl rfl Tryd.underlying39 Tryd.info79 rfl (by decide) h8.out rfl rfl (by simp) rfl (by intro u hu; simp at hu; rcases hu with rfl | rfl <;> rfl) (by omega) (by omega) hzx ?_); intro v' w' hown' hg hat)
          have hO8 : w'.ownsRow w.heap.size 79 2 v' (bad ++ [o]).length (optCells (bad ++ [o])) := by rw [optCells_append, List.length_append]; exact hown'
          have hB4 := below_push (HXB.out x) h8.out (Nat.le_refl _) hzx hg
          have hO9 := HAP.out.kept (HX9.out x) hg
          have hAP := HAP.out.push (HX9.out x) hat
          have hS4 : Side w' b own := Blk.grown (HXS.out x) hg (own_blk_ne h8.out (HXS.out x) (by decide)).symm
          have hK4 := Blk.grown (HXK.out x) hg (own_blk_ne h8.out (HXK.out x) (by decide)).symm
          clear hown' hg hat h8
          go_roundw
          case rel => exact ⟨m + 1, bad ++ [o], bet, by omega, by go_num, HN.out, by simp; omega, hO8, hO9, hAP, hS4, hK4, hB4⟩
          case measure => simp [intOf]; omega
        · rcases hk18 : (o.kind == 18) with _ | _
          · rcases htw : twiceB (os.take m) o with _ | _
            · have hft : decide (0 ≤ findI o.kind (os.take m)) = false := by rw [find_twice, htw]
              have hbad : badB own (os.take m) o = false := by unfold badB; rw [hrb, hk18]; rw [htw]; rfl
              have HX := Lib.hid (fun x : Near (wr.alloc (.cells #[.int .i64 o.kind, .string o.data] 79)) => better_any b own o x.v (HXS.out x) (by omega) hm0 hm1)
              rcases hbt : betterD own o with ⟨p, _ | _⟩
              · have HN := Lib.hid (show judgeGo own [] os [] [] = judgeGo own (os.take (m + 1)) (os.drop (m + 1)) bad bet by rw [HJ.out, HG.out, HFIT.out, if_pos rfl, hbad, if_neg (by decide), hbt, if_neg (show ¬ (p, false).2 = true from Bool.false_ne_true)])
                rw [hbt] at HX
                clear HG HJ hbad hbt
                go_wp2_with fail
                refine wp_region_near (by kernel_rfl) (by kernel_rfl) ?_
                repeat (go_big_quiet_step ((first | (go_at_call 53; exact near_of (right_any o _)) | (go_at_call 54; exact near_of (find_any (os.take m) (some ad) m c o.kind _ (HRX.out _) HLN.out (by omega))))))
                refine wpQuiet_nil ?_
                intro x
                have x0 := n0 x
                have x1 := n1 x
                clear n0 n1 n3
                go_wp2_with (go_at_call 55; refine (HX.out x).mono ?_; rintro e w3 ⟨rfl, hb3⟩; have hx3 := Lib.hid (below_trans' (HXB.out x) (HXB.out x).size hb3); have h83 := Lib.hid (own_below (HX8.out x) hb3); have h93 := Lib.hid (own_below (HX9.out x) hb3); have hs3 := Lib.hid ((HXS.out x).below hb3); have hk3 := Lib.hid (Blk.below (HXK.out x) hb3 (HXK.out x).lt); have hz3 := hx3.out.size; clear hb3)
                go_roundw
                case rel => exact ⟨m + 1, bad, bet, by omega, by go_num, HN.out, by omega, h83.out.alloc _, h93.out.alloc _, HAP.out, Blk.alloc hs3.out _, Blk.alloc hk3.out _, hx3.out.alloc hz3 _⟩
                case measure => simp [intOf]; omega
              · have HN := Lib.hid (show judgeGo own [] os [] [] = judgeGo own (os.take (m + 1)) (os.drop (m + 1)) bad (bet ++ [p]) by rw [HJ.out, HG.out, HFIT.out, if_pos rfl, hbad, if_neg (by decide), hbt, if_pos rfl])
                rw [hbt] at HX
                clear HG HJ hbad hbt
                go_wp2_with fail
                refine wp_region_near (by kernel_rfl) (by kernel_rfl) ?_
                repeat (go_big_quiet_step ((first | (go_at_call 53; exact near_of (right_any o _)) | (go_at_call 54; exact near_of (find_any (os.take m) (some ad) m c o.kind _ (HRX.out _) HLN.out (by omega))))))
                refine wpQuiet_nil ?_
                intro x
                have x0 := n0 x
                have x1 := n1 x
                clear n0 n1 n3
                go_wp2_with (first | (go_at_call 55; refine (HX.out x).mono ?_; rintro e w3 ⟨rfl, hb3⟩; have hx3 := Lib.hid (below_trans' (HXB.out x) (HXB.out x).size hb3); have h83 := Lib.hid (own_below (HX8.out x) hb3); have h93 := Lib.hid (own_below (HX9.out x) hb3); have hs3 := Lib.hid ((HXS.out x).below hb3); have hk3 := Lib.hid (Blk.below (HXK.out x) hb3 (HXK.out x).lt); have hz3 := hx3.out.size; clear hb3) | (at_builtin; go_must (refine wpList_push rfl rfl Tryd.underlying39 Tryd.info79 rfl (by decide) (h93.out.alloc (.cells #[.int .i64 p.kind, .string p.data] 79)) rfl rfl (by simp) rfl (by intro u hu; simp at hu; rcases hu with rfl | rfl <;> rfl) (by omega) (by omega) (by simp; omega) ?_); intro v' w' hown' hg hat))
                have hO9 : w'.ownsRow w.heap.size 79 2 v' (bet ++ [p]).length (optCells (bet ++ [p])) := by rw [optCells_append, List.length_append]; exact hown'
                have hB4 := below_push (hx3.out.alloc hz3 (.cells #[.int .i64 p.kind, .string p.data] 79)) (h93.out.alloc (.cells #[.int .i64 p.kind, .string p.data] 79)) (Nat.le_refl _) (by simp; omega) hg
                have hO8 := HAP.out.symm.kept (h83.out.alloc (.cells #[.int .i64 p.kind, .string p.data] 79)) hg
                have hAP := (HAP.out.symm.push (h83.out.alloc (.cells #[.int .i64 p.kind, .string p.data] 79)) hat).symm
                have hS4 : Side w' b own := Blk.grown (Blk.alloc hs3.out (.cells #[.int .i64 p.kind, .string p.data] 79)) hg (own_blk_ne (h93.out.alloc (.cells #[.int .i64 p.kind, .string p.data] 79)) (Blk.alloc hs3.out (.cells #[.int .i64 p.kind, .string p.data] 79)) (by decide)).symm
                have hK4 := Blk.grown (Blk.alloc hk3.out (.cells #[.int .i64 p.kind, .string p.data] 79)) hg (own_blk_ne (h93.out.alloc (.cells #[.int .i64 p.kind, .string p.data] 79)) (Blk.alloc hk3.out (.cells #[.int .i64 p.kind, .string p.data] 79)) (by decide)).symm
                clear hown' hg hat
                go_roundw
                case rel => exact ⟨m + 1, bad, bet ++ [p], by omega, by go_num, HN.out, by simp; omega, hO8, hO9, hAP, hS4, hK4, hB4⟩
                case measure => simp [intOf]; omega
            · have hft : decide (0 ≤ findI o.kind (os.take m)) = true := by rw [find_twice, htw]
              have HN := Lib.hid (show judgeGo own [] os [] [] = judgeGo own (os.take (m + 1)) (os.drop (m + 1)) (bad ++ [o]) bet by rw [HJ.out, HG.out, HFIT.out, if_pos rfl, if_pos (by unfold badB; rw [hrb, hk18]; rw [htw]; rfl)])
              clear HG HJ
              go_wp2_with fail
              refine wp_region_near (by kernel_rfl) (by kernel_rfl) ?_
              repeat (go_big_quiet_step ((first | (go_at_call 53; exact near_of (right_any o _)) | (go_at_call 54; exact near_of (find_any (os.take m) (some ad) m c o.kind _ (HRX.out _) HLN.out (by omega))))))
              refine wpQuiet_nil ?_
              intro x
              have x0 := n0 x
              have x1 := n1 x
              clear n0 n1 n3
              have hzx := (HXB.out x).size
              have h8 := Lib.hid (HX8.out x)
              go_wp2_with (at_builtin; go_must (refine wpList_push rfl rfl Tryd.underlying39 Tryd.info79 rfl (by decide) h8.out rfl rfl (by simp) rfl (by intro u hu; simp at hu; rcases hu with rfl | rfl <;> rfl) (by omega) (by omega) hzx ?_); intro v' w' hown' hg hat)
              have hO8 : w'.ownsRow w.heap.size 79 2 v' (bad ++ [o]).length (optCells (bad ++ [o])) := by rw [optCells_append, List.length_append]; exact hown'
              have hB4 := below_push (HXB.out x) h8.out (Nat.le_refl _) hzx hg
              have hO9 := HAP.out.kept (HX9.out x) hg
              have hAP := HAP.out.push (HX9.out x) hat
              have hS4 : Side w' b own := Blk.grown (HXS.out x) hg (own_blk_ne h8.out (HXS.out x) (by decide)).symm
              have hK4 := Blk.grown (HXK.out x) hg (own_blk_ne h8.out (HXK.out x) (by decide)).symm
              clear hown' hg hat h8
              go_roundw
              case rel => exact ⟨m + 1, bad ++ [o], bet, by omega, by go_num, HN.out, by simp; omega, hO8, hO9, hAP, hS4, hK4, hB4⟩
              case measure => simp [intOf]; omega
          · rcases hsh : own.short with _ | _
            · have HN := Lib.hid (show judgeGo own [] os [] [] = judgeGo own (os.take (m + 1)) (os.drop (m + 1)) (bad ++ [o]) bet by rw [HJ.out, HG.out, HFIT.out, if_pos rfl, if_pos (by unfold badB; rw [hrb, hk18, hsh]; rfl)])
              clear HG HJ
              go_wp2_with fail
              refine wp_region_near (by kernel_rfl) (by kernel_rfl) ?_
              repeat (go_big_quiet_step ((first | (go_at_call 53; exact near_of (right_any o _)))))
              refine wpQuiet_nil ?_
              intro x
              have x0 := n0 x
              have x1 := n1 x
              clear n0 n1 n3
              have hzx := (HXB.out x).size
              have h8 := Lib.hid (HX8.out x)
              go_wp2_with (at_builtin; go_must (refine wpList_push rfl rfl Tryd.underlying39 Tryd.info79 rfl (by decide) h8.out rfl rfl (by simp) rfl (by intro u hu; simp at hu; rcases hu with rfl | rfl <;> rfl) (by omega) (by omega) hzx ?_); intro v' w' hown' hg hat)
              have hO8 : w'.ownsRow w.heap.size 79 2 v' (bad ++ [o]).length (optCells (bad ++ [o])) := by rw [optCells_append, List.length_append]; exact hown'
              have hB4 := below_push (HXB.out x) h8.out (Nat.le_refl _) hzx hg
              have hO9 := HAP.out.kept (HX9.out x) hg
              have hAP := HAP.out.push (HX9.out x) hat
              have hS4 : Side w' b own := Blk.grown (HXS.out x) hg (own_blk_ne h8.out (HXS.out x) (by decide)).symm
              have hK4 := Blk.grown (HXK.out x) hg (own_blk_ne h8.out (HXK.out x) (by decide)).symm
              clear hown' hg hat h8
              go_roundw
              case rel => exact ⟨m + 1, bad ++ [o], bet, by omega, by go_num, HN.out, by simp; omega, hO8, hO9, hAP, hS4, hK4, hB4⟩
              case measure => simp [intOf]; omega
            · rcases htw : twiceB (os.take m) o with _ | _
              · have hft : decide (0 ≤ findI o.kind (os.take m)) = false := by rw [find_twice, htw]
                have hbad : badB own (os.take m) o = false := by unfold badB; rw [hrb, hk18, hsh]; rw [htw]; rfl
                have HX := Lib.hid (fun x : Near (wr.alloc (.cells #[.int .i64 o.kind, .string o.data] 79)) => better_any b own o x.v (HXS.out x) (by omega) hm0 hm1)
                rcases hbt : betterD own o with ⟨p, _ | _⟩
                · have HN := Lib.hid (show judgeGo own [] os [] [] = judgeGo own (os.take (m + 1)) (os.drop (m + 1)) bad bet by rw [HJ.out, HG.out, HFIT.out, if_pos rfl, hbad, if_neg (by decide), hbt, if_neg (show ¬ (p, false).2 = true from Bool.false_ne_true)])
                  rw [hbt] at HX
                  clear HG HJ hbad hbt
                  go_wp2_with fail
                  refine wp_region_near (by kernel_rfl) (by kernel_rfl) ?_
                  repeat (go_big_quiet_step ((first | (go_at_call 53; exact near_of (right_any o _)) | (go_at_call 54; exact near_of (find_any (os.take m) (some ad) m c o.kind _ (HRX.out _) HLN.out (by omega))))))
                  refine wpQuiet_nil ?_
                  intro x
                  have x0 := n0 x
                  have x1 := n1 x
                  clear n0 n1 n3
                  go_wp2_with (go_at_call 55; refine (HX.out x).mono ?_; rintro e w3 ⟨rfl, hb3⟩; have hx3 := Lib.hid (below_trans' (HXB.out x) (HXB.out x).size hb3); have h83 := Lib.hid (own_below (HX8.out x) hb3); have h93 := Lib.hid (own_below (HX9.out x) hb3); have hs3 := Lib.hid ((HXS.out x).below hb3); have hk3 := Lib.hid (Blk.below (HXK.out x) hb3 (HXK.out x).lt); have hz3 := hx3.out.size; clear hb3)
                  go_roundw
                  case rel => exact ⟨m + 1, bad, bet, by omega, by go_num, HN.out, by omega, h83.out.alloc _, h93.out.alloc _, HAP.out, Blk.alloc hs3.out _, Blk.alloc hk3.out _, hx3.out.alloc hz3 _⟩
                  case measure => simp [intOf]; omega
                · have HN := Lib.hid (show judgeGo own [] os [] [] = judgeGo own (os.take (m + 1)) (os.drop (m + 1)) bad (bet ++ [p]) by rw [HJ.out, HG.out, HFIT.out, if_pos rfl, hbad, if_neg (by decide), hbt, if_pos rfl])
                  rw [hbt] at HX
                  clear HG HJ hbad hbt
                  go_wp2_with fail
                  refine wp_region_near (by kernel_rfl) (by kernel_rfl) ?_
                  repeat (go_big_quiet_step ((first | (go_at_call 53; exact near_of (right_any o _)) | (go_at_call 54; exact near_of (find_any (os.take m) (some ad) m c o.kind _ (HRX.out _) HLN.out (by omega))))))
                  refine wpQuiet_nil ?_
                  intro x
                  have x0 := n0 x
                  have x1 := n1 x
                  clear n0 n1 n3
                  go_wp2_with (first | (go_at_call 55; refine (HX.out x).mono ?_; rintro e w3 ⟨rfl, hb3⟩; have hx3 := Lib.hid (below_trans' (HXB.out x) (HXB.out x).size hb3); have h83 := Lib.hid (own_below (HX8.out x) hb3); have h93 := Lib.hid (own_below (HX9.out x) hb3); have hs3 := Lib.hid ((HXS.out x).below hb3); have hk3 := Lib.hid (Blk.below (HXK.out x) hb3 (HXK.out x).lt); have hz3 := hx3.out.size; clear hb3) | (at_builtin; go_must (refine wpList_push rfl rfl Tryd.underlying39 Tryd.info79 rfl (by decide) (h93.out.alloc (.cells #[.int .i64 p.kind, .string p.data] 79)) rfl rfl (by simp) rfl (by intro u hu; simp at hu; rcases hu with rfl | rfl <;> rfl) (by omega) (by omega) (by simp; omega) ?_); intro v' w' hown' hg hat))
                  have hO9 : w'.ownsRow w.heap.size 79 2 v' (bet ++ [p]).length (optCells (bet ++ [p])) := by rw [optCells_append, List.length_append]; exact hown'
                  have hB4 := below_push (hx3.out.alloc hz3 (.cells #[.int .i64 p.kind, .string p.data] 79)) (h93.out.alloc (.cells #[.int .i64 p.kind, .string p.data] 79)) (Nat.le_refl _) (by simp; omega) hg
                  have hO8 := HAP.out.symm.kept (h83.out.alloc (.cells #[.int .i64 p.kind, .string p.data] 79)) hg
                  have hAP := (HAP.out.symm.push (h83.out.alloc (.cells #[.int .i64 p.kind, .string p.data] 79)) hat).symm
                  have hS4 : Side w' b own := Blk.grown (Blk.alloc hs3.out (.cells #[.int .i64 p.kind, .string p.data] 79)) hg (own_blk_ne (h93.out.alloc (.cells #[.int .i64 p.kind, .string p.data] 79)) (Blk.alloc hs3.out (.cells #[.int .i64 p.kind, .string p.data] 79)) (by decide)).symm
                  have hK4 := Blk.grown (Blk.alloc hk3.out (.cells #[.int .i64 p.kind, .string p.data] 79)) hg (own_blk_ne (h93.out.alloc (.cells #[.int .i64 p.kind, .string p.data] 79)) (Blk.alloc hk3.out (.cells #[.int .i64 p.kind, .string p.data] 79)) (by decide)).symm
                  clear hown' hg hat
                  go_roundw
                  case rel => exact ⟨m + 1, bad, bet ++ [p], by omega, by go_num, HN.out, by simp; omega, hO8, hO9, hAP, hS4, hK4, hB4⟩
                  case measure => simp [intOf]; omega
              · have hft : decide (0 ≤ findI o.kind (os.take m)) = true := by rw [find_twice, htw]
                have HN := Lib.hid (show judgeGo own [] os [] [] = judgeGo own (os.take (m + 1)) (os.drop (m + 1)) (bad ++ [o]) bet by rw [HJ.out, HG.out, HFIT.out, if_pos rfl, if_pos (by unfold badB; rw [hrb, hk18, hsh]; rw [htw]; rfl)])
                clear HG HJ
                go_wp2_with fail
                refine wp_region_near (by kernel_rfl) (by kernel_rfl) ?_
                repeat (go_big_quiet_step ((first | (go_at_call 53; exact near_of (right_any o _)) | (go_at_call 54; exact near_of (find_any (os.take m) (some ad) m c o.kind _ (HRX.out _) HLN.out (by omega))))))
                refine wpQuiet_nil ?_
                intro x
                have x0 := n0 x
                have x1 := n1 x
                clear n0 n1 n3
                have hzx := (HXB.out x).size
                have h8 := Lib.hid (HX8.out x)
                go_wp2_with (at_builtin; go_must (refine wpList_push rfl rfl Tryd.underlying39 Tryd.info79 rfl (by decide) h8.out rfl rfl (by simp) rfl (by intro u hu; simp at hu; rcases hu with rfl | rfl <;> rfl) (by omega) (by omega) hzx ?_); intro v' w' hown' hg hat)
                have hO8 : w'.ownsRow w.heap.size 79 2 v' (bad ++ [o]).length (optCells (bad ++ [o])) := by rw [optCells_append, List.length_append]; exact hown'
                have hB4 := below_push (HXB.out x) h8.out (Nat.le_refl _) hzx hg
                have hO9 := HAP.out.kept (HX9.out x) hg
                have hAP := HAP.out.push (HX9.out x) hat
                have hS4 : Side w' b own := Blk.grown (HXS.out x) hg (own_blk_ne h8.out (HXS.out x) (by decide)).symm
                have hK4 := Blk.grown (HXK.out x) hg (own_blk_ne h8.out (HXK.out x) (by decide)).symm
                clear hown' hg hat h8
                go_roundw
                case rel => exact ⟨m + 1, bad ++ [o], bet, by omega, by go_num, HN.out, by simp; omega, hO8, hO9, hAP, hS4, hK4, hB4⟩
                case measure => simp [intOf]; omega
    · obtain rfl : m = n := by omega
      have hj : judgeGo own [] os [] [] = some (bad, bet) := by rw [HJ.out, List.drop_of_length_le (by omega)]; rfl
      have HJ2 := Lib.hid hj
      clear hj HJ
      rcases hb8 : bad.length with _ | k
      · rcases hb9 : bet.length with _ | k
        · have HN := Lib.hid (show judgeD own os = (0, os, 0) by unfold judgeD; rw [HM.out, HJ2.out]; simp only [if_true, hb8, hb9])
          have hrw : Reads wr w.heap.size 2 A m (optCells os) := hr.below HB.out
          have HRW := Lib.hid hrw
          clear hrw
          rw [hb8] at HO8
          rw [hb9] at HO9
          obtain ⟨A8, c8, rfl, _⟩ := own_shape HO8.out
          obtain ⟨A9, c9, rfl, _⟩ := own_shape HO9.out
          obtain ⟨i0, hi0, hz0, hz1, hz2⟩ := info_parts Tryd.info79
          go_wp2_with (at_builtin; go_must (refine wpList_append_any _ rfl _ _ _ rfl w.heap.size 79 i0 _ 2 24 Tryd.underlying39 hi0 hz0 hz1 hz2 rfl (by omega) (.slice none 0 0) 0 [] rfl (World.ownsRow_nil _ _ _ _) w.heap.size A m c (optCells os) rfl HRW.out (optCells_one_cell os) (by simp only [maxLen]; omega) (by omega) hz ?_); intro v' w' hown' hg hat)
          go_ret3
          refine ⟨_, by rw [HN.out]; rfl, by rw [HN.out]; simpa [hn] using hown', ?_⟩
          exact below_push HB.out (World.ownsRow_nil _ w.heap.size 79 2) (Nat.le_refl _) hz hg
        · have HN := Lib.hid (show judgeD own os = (1, bet, 0) by unfold judgeD; rw [HM.out, HJ2.out]; simp only [if_true, hb8, hb9]; rfl)
          rw [hb8] at HO8
          have hO9 := Lib.hid HO9.out
          rw [hb9] at HO9
          obtain ⟨A8, c8, rfl, _⟩ := own_shape HO8.out
          obtain ⟨A9, c9, rfl, _⟩ := own_shape HO9.out
          go_wp2
          go_ret3
          exact ⟨_, by rw [HN.out]; rfl, by rw [HN.out]; exact hO9.out, HB.out⟩
      · have HN := Lib.hid (show judgeD own os = (2, bad, 0) by unfold judgeD; rw [HM.out, HJ2.out]; simp only [if_true, hb8]; rfl)
        have hO8 := Lib.hid HO8.out
        rw [hb8] at HO8
        obtain ⟨A8, c8, rfl, _⟩ := own_shape HO8.out
        go_wp2
        go_ret3
        exact ⟨_, by rw [HN.out]; rfl, by rw [HN.out]; exact hO8.out, HB.out⟩

theorem judge_any (own : LinkD) (A : Option Addr) (n c : Nat) (os : List OptD) (w : World) (hr : Reads w w.heap.size 2 A n (optCells os)) (hn : os.length = n) (hn2 : n * 24 ≤ 140737488351232) (hc : n ≤ c) :
    Calls Tryd.prog 39 #[.agg #[.int .i64 own.mru, .int .i64 own.magic, .int .i64 own.mrru, .bool own.short, .string own.disc, .int .i64 own.num], .slice A n c] w fun e w' =>
      ∃ v, e = .returned (.tuple #[.int .i64 (judgeD own os).1, v, .int .i64 (judgeD own os).2.2]) ∧ Judged own os w w' v := by
  rcases h : own.may with _ | _
  · refine (judge_no own A n c os w h).mono fun e w' hh => ⟨_, ?_, hh.2⟩
    rw [hh.1]; unfold judgeD; rw [h]; rfl
  · exact judge_yes own A n c os w h hr hn hn2 hc
end Go.Proofs.YthlfghheciamcaaDoor
