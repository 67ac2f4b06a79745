/-
  Contracts, fifth part: what a link asks by.
  Conditions: as each states.
-/
import Derived.Test.YthlfghheciamcaaDoorK4
namespace Go.Proofs.YthlfghheciamcaaDoor
open Go.RowKit
set_option linter.unusedVariables false

def kindsL : List Int := [1, 5, 17, 18, 19, 23]
def LinkD.opt (l : LinkD) (k : Int) : OptD :=
  if k = 18 then ⟨18, ⟨#[]⟩⟩ else if k = 19 then ⟨19, l.disc⟩ else match l.field k with | some (_, x) => ⟨k, numB x (sizeK k).toNat⟩ | none => ⟨k, ⟨#[]⟩⟩
def LinkD.askL (l : LinkD) (ks : List Int) : List OptD := (ks.filter l.asks).map l.opt
def LinkD.ask (l : LinkD) : List OptD := if l.may then l.askL kindsL else []
theorem askL_miss (l : LinkD) (ks : List Int) (k : Int) (h : l.asks k = false) : l.askL (ks ++ [k]) = l.askL ks := by simp [LinkD.askL, List.filter_append, h]
theorem askL_hit (l : LinkD) (ks : List Int) (k : Int) (h : l.asks k = true) : l.askL (ks ++ [k]) = l.askL ks ++ [l.opt k] := by simp [LinkD.askL, List.filter_append, h]
theorem askL_le (l : LinkD) (ks : List Int) : (l.askL ks).length ≤ ks.length := by simp only [LinkD.askL, List.length_map]; exact List.length_filter_le _ _

theorem Tryd.info79 : (Tryd.prog.info? 79).map (fun i => (i.zero, i.size, i.bytes)) = some (some (.agg #[.int .i64 0, .string ⟨#[]⟩]), 2, 24) := by kernel_rfl

theorem own_grown {W w' : World} {base : Nat} {e : TypeId} {size n g : Nat} {v : Value} {xs : List Value} (h : W.ownsRow base e size v n xs) (hg : W.grownBy w' (some g)) (hn : W.heap.size ≤ g) : w'.ownsRow base e size v n xs :=
  h.kept hg (by
    cases hv : v.ownBlock with
    | none => exact .inl rfl
    | some k => exact .inr fun he => by injection he with he; have := (h.lt k hv).2; omega)

/-- what a call of Ask comes to -/
structure Asked (l : LinkD) (w w' : World) (v : Value) : Prop where
  own : w'.ownsRow w.heap.size 79 2 v l.ask.length (optCells l.ask)
  below : Below w.heap.size w w'

theorem ask_no (l : LinkD) (w : World) (h : l.may = false) :
    Calls Tryd.prog 46 #[.agg #[.int .i64 l.mru, .int .i64 l.magic, .int .i64 l.mrru, .bool l.short, .string l.disc, .int .i64 l.num]] w fun e w' =>
      e = .returned (.tuple #[.slice none 0 0, .int .i64 1400]) ∧ Asked l w w' (.slice none 0 0) := by
  have HA := Lib.hid (show l.ask = [] by simp [LinkD.ask, h])
  go_enter Tryd.func46, Tryd.ntmps46
  go_wp2_with (go_at_call 23; refine (may_any l _).mono ?_; rintro e w1 ⟨rfl, hb1⟩)
  go_ret2
  exact ⟨rfl, by rw [HA.out]; exact World.ownsRow_nil _ _ _ _, below_trans' ((Below.refl _ _).alloc (Nat.le_refl _) _) (by simp) hb1⟩

set_option maxRecDepth 100000 in
set_option maxHeartbeats 4000000 in
theorem ask_yes (l : LinkD) (w : World) (h : l.may = true) :
    Calls Tryd.prog 46 #[.agg #[.int .i64 l.mru, .int .i64 l.magic, .int .i64 l.mrru, .bool l.short, .string l.disc, .int .i64 l.num]] w fun e w' =>
      ∃ v, e = .returned (.tuple #[v, .int .i64 0]) ∧ Asked l w w' v := by
  have HA := Lib.hid (show l.ask = l.askL kindsL by simp [LinkD.ask, h])
  have hmm := h
  simp only [LinkD.may, Bool.and_eq_true, decide_eq_true_eq] at hmm
  have hm0 : 0 ≤ l.magic := hmm.2.2.1
  have hm1 : l.magic ≤ 4294967295 := hmm.2.2.2.1
  have hn0 : 0 ≤ l.num := hmm.2.2.2.2.2.1
  have hn1 : l.num ≤ 65535 := hmm.2.2.2.2.2.2
  have hu0 : 0 ≤ l.mru ∧ l.mru ≤ 1500 := by have := hmm.1; simp only [sizeB, unitB, Bool.or_eq_true, beq_iff_eq, Bool.and_eq_true, decide_eq_true_eq] at this; omega
  have hu1 : 0 ≤ l.mrru ∧ l.mrru ≤ 1500 := by have := hmm.2.1; simp only [sizeB, unitB, Bool.or_eq_true, beq_iff_eq, Bool.and_eq_true, decide_eq_true_eq] at this; omega
  clear hmm
  go_enter Tryd.func46, Tryd.ntmps46
  go_wp2_with (first
    | (go_at_call 23; refine (may_any l _).mono ?_; rintro e w1 ⟨rfl, hb1⟩; have hk1 := Blk.below (Blk.new w 23 l.cells) hb1 (by simp); have q0 : w1.cell? ⟨w.heap.size, 0, none⟩ = some (.int .i64 l.mru) := hk1.cell 0; have q1 : w1.cell? ⟨w.heap.size, 1, none⟩ = some (.int .i64 l.magic) := hk1.cell 1; have q2 : w1.cell? ⟨w.heap.size, 2, none⟩ = some (.int .i64 l.mrru) := hk1.cell 2; have q3 : w1.cell? ⟨w.heap.size, 3, none⟩ = some (.bool l.short) := hk1.cell 3; have q4 : w1.cell? ⟨w.heap.size, 4, none⟩ = some (.string l.disc) := hk1.cell 4; have q5 : w1.cell? ⟨w.heap.size, 5, none⟩ = some (.int .i64 l.num) := hk1.cell 5; have HK1 := Lib.hid hk1; have HB1 := Lib.hid hb1; clear hk1 hb1)
    | (go_at_call 62; refine (kinds_any _).mono ?_; rintro e w2 ⟨rfl, rfl⟩))
  clear q0 q1 q2 q3 q5
  have hbA : Below w.heap.size w w1 := below_trans' ((Below.refl _ _).alloc (Nat.le_refl _) _) (by simp) HB1.out
  have hsz : w.heap.size < w1.heap.size := HK1.out.lt
  generalize hW2 : (w1.alloc (.cells #[.int .i64 l.mru, .int .i64 l.magic, .int .i64 l.mrru, .bool l.short, .string l.disc, .int .i64 l.num] 103)).alloc (.cells #[.int .i64 1, .int .i64 5, .int .i64 17, .int .i64 18, .int .i64 19, .int .i64 23] 3) = W2
  have hs2 : Side W2 w1.heap.size l := by rw [← hW2]; exact Blk.alloc (Blk.new w1 103 l.cells) _
  have hk2 : Blk W2 (w1.heap.size + 1) 3 #[.int .i64 1, .int .i64 5, .int .i64 17, .int .i64 18, .int .i64 19, .int .i64 23] := by
    rw [← hW2]
    have := Blk.new (w1.alloc (.cells #[.int .i64 l.mru, .int .i64 l.magic, .int .i64 l.mrru, .bool l.short, .string l.disc, .int .i64 l.num] 103)) 3 #[.int .i64 1, .int .i64 5, .int .i64 17, .int .i64 18, .int .i64 19, .int .i64 23]
    simpa using this
  have hd2 : W2.cell? ⟨w.heap.size, 4, none⟩ = some (.string l.disc) := by
    rw [← hW2, World.cell?_alloc_lt _ _ _ (by simp; omega), World.cell?_alloc_lt _ _ _ hsz]; exact q4
  have hb2 : Below w.heap.size w W2 := by rw [← hW2]; exact (hbA.alloc hbA.size _).alloc (by have := hbA.size; simp; omega) _
  have hz2 : w.heap.size ≤ W2.heap.size := hb2.size
  have hszb : w1.heap.size + 1 < W2.heap.size := hk2.lt
  have HS2 := Lib.hid hs2
  have HK2 := Lib.hid hk2
  have HD2 := Lib.hid hd2
  have HB2 := Lib.hid hb2
  generalize w1.heap.size = b at *
  clear HK1 HB1 hbA q4 hs2 hk2 hd2 hb2 hW2
  go_loopw [5, 7, 8, 9, 18] (fun v _ _ _ i wr => ∃ m : Nat, m ≤ 6 ∧ i = .int .i64 m ∧ wr.ownsRow W2.heap.size 79 2 v (l.askL (kindsL.take m)).length (optCells (l.askL (kindsL.take m))) ∧ Below W2.heap.size W2 wr)
    (fun _ _ _ _ i _ => 6 - (intOf i).toNat)
  case atStart => exact ⟨0, by omega, rfl, World.ownsRow_nil _ _ _ _, Below.refl _ _⟩
  case round =>
    obtain ⟨m, hm, rfl, hown, hb⟩ := hrel
    have hle := askL_le l (kindsL.take m)
    have hle2 : (kindsL.take m).length ≤ 6 := by simp [kindsL]; omega
    by_cases hlt : m < 6
    · have hs : Side wr b l := Blk.below HS2.out hb HS2.out.lt
      have hk : Blk wr (b + 1) 3 _ := Blk.below HK2.out hb HK2.out.lt
      have hd : wr.cell? ⟨w.heap.size, 4, none⟩ = some (.string l.disc) := (hb.cell (World.block_lt_of_cell? _ _ HD2.out)).trans HD2.out
      have hfz := hs.frozen
      have hzr := hb.size
      have HS := Lib.hid hs
      have HK := Lib.hid hk
      have HO := Lib.hid hown
      have HB := Lib.hid hb
      clear hs hk hown hb
      rcases (show m = 0 ∨ m = 1 ∨ m = 2 ∨ m = 3 ∨ m = 4 ∨ m = 5 by omega) with rfl | rfl | rfl | rfl | rfl | rfl
      · have hkc : wr.cell? ⟨b + 1, 0, none⟩ = some (.int .i64 1) := HK.out.cell 0
        have hap : l.askL (kindsL.take 1) = l.askL (kindsL.take 0 ++ [1]) := rfl
        rcases ha : l.asks 1 with _ | _
        · have HE := Lib.hid (show l.askL (kindsL.take 1) = l.askL (kindsL.take 0) from hap.trans (askL_miss l _ _ ha))
          clear hap
          go_wp2_with (go_at_call 56; refine (asks_any b l 1 _ HS.out).mono ?_; rintro e w' ⟨rfl, rfl⟩)
          go_roundw
          case rel => exact ⟨1, by omega, rfl, by rw [HE.out]; exact HO.out, HB.out⟩
          case measure => simp [intOf]
        · have HE := Lib.hid (show l.askL (kindsL.take 1) = l.askL (kindsL.take 0) ++ [l.opt 1] from hap.trans (askL_hit l _ _ ha))
          clear hap
          have hfc : wr.cell? ⟨b, 0, none⟩ = some (.int .i64 l.mru) := HS.out.cells.c0
          have hbl : b < wr.heap.size := HS.out.lt
          go_wp2_with (first | (go_at_call 56; refine (asks_any b l 1 _ HS.out).mono ?_; rintro e w' ⟨rfl, rfl⟩) | (go_at_call 63; refine (field_any b 1 (.pointer (some ⟨b, 0, none⟩)) rfl _).mono ?_; rintro e w' ⟨rfl, rfl⟩))
          have n0 := Near.cell (w := wr.alloc (.cells #[.int .i64 1, .string ⟨#[]⟩] 79)) (a := ⟨b, 0, none⟩) (u := .int .i64 l.mru) (by rw [World.cell?_alloc_lt _ _ _ hbl]; exact hfc)
          have n1 := Near.blk (Blk.new wr 79 #[.int .i64 1, .string ⟨#[]⟩])
          refine wp_region_near_tail 7 (by kernel_rfl) (by kernel_rfl) ?_
          simp only [List.take_succ_cons, List.take_zero, List.drop_succ_cons, List.drop_zero]
          have N1 := Lib.hid n1
          clear n1
          repeat (go_big_quiet_step ((first | (go_at_call 65; exact near_of_same (size_any 1 _)) | (go_at_call 64; exact near_of (number_any l.mru 2 _ hu0.1 (by omega) (by omega))))))
          refine wpQuiet_nil ?_
          intro x
          have hx := N1.out x
          have hG : wr.grownBy (x.v.setCell ⟨wr.heap.size, 1, none⟩ (.string (numB l.mru 2))) (some wr.heap.size) := grown_from_alloc (only_setCell (only_of_below x.below _) (.inl rfl) _)
          have hxc0 : x.v.cell? ⟨wr.heap.size, 0, none⟩ = some (.int .i64 1) := hx.cell 0
          have hxc1 : x.v.cell? ⟨wr.heap.size, 1, none⟩ = some (.string ⟨#[]⟩) := hx.cell 1
          have hxf := hx.frozen 1
          have hO3 := Lib.hid (own_grown HO.out hG (Nat.le_refl _))
          have hB3 := Lib.hid (HB.out.grown hG hzr (fun q hq => by injection hq with hq; omega))
          have hz3 : W2.heap.size ≤ (x.v.setCell ⟨wr.heap.size, 1, none⟩ (.string (numB l.mru 2))).heap.size := hB3.out.size
          clear n0 N1 hx hG
          go_wp2_with (at_builtin; go_must (refine wpList_push rfl rfl Tryd.underlying39 Tryd.info79 rfl (by decide) hO3.out rfl rfl (by simp) rfl (by intro u hu; simp at hu; rcases hu with rfl | rfl <;> rfl) (by omega) (by omega) hz3 ?_); intro v' w' hown' hg _)
          have hB4 := below_push hB3.out hO3.out (Nat.le_refl _) hz3 hg
          have hO4 : w'.ownsRow W2.heap.size 79 2 v' (l.askL (kindsL.take 1)).length (optCells (l.askL (kindsL.take 1))) := by
            rw [HE.out, optCells_append, List.length_append]; exact hown'
          clear hown' hg hO3 hB3
          go_roundw
          case rel => exact ⟨1, by omega, rfl, hO4, hB4⟩
          case measure => simp [intOf]
      · have hkc : wr.cell? ⟨b + 1, 1, none⟩ = some (.int .i64 5) := HK.out.cell 1
        have hap : l.askL (kindsL.take 2) = l.askL (kindsL.take 1 ++ [5]) := rfl
        rcases ha : l.asks 5 with _ | _
        · have HE := Lib.hid (show l.askL (kindsL.take 2) = l.askL (kindsL.take 1) from hap.trans (askL_miss l _ _ ha))
          clear hap
          go_wp2_with (go_at_call 56; refine (asks_any b l 5 _ HS.out).mono ?_; rintro e w' ⟨rfl, rfl⟩)
          go_roundw
          case rel => exact ⟨2, by omega, rfl, by rw [HE.out]; exact HO.out, HB.out⟩
          case measure => simp [intOf]
        · have HE := Lib.hid (show l.askL (kindsL.take 2) = l.askL (kindsL.take 1) ++ [l.opt 5] from hap.trans (askL_hit l _ _ ha))
          clear hap
          have hfc : wr.cell? ⟨b, 1, none⟩ = some (.int .i64 l.magic) := HS.out.cells.c1
          have hbl : b < wr.heap.size := HS.out.lt
          go_wp2_with (first | (go_at_call 56; refine (asks_any b l 5 _ HS.out).mono ?_; rintro e w' ⟨rfl, rfl⟩) | (go_at_call 63; refine (field_any b 5 (.pointer (some ⟨b, 1, none⟩)) rfl _).mono ?_; rintro e w' ⟨rfl, rfl⟩))
          have n0 := Near.cell (w := wr.alloc (.cells #[.int .i64 5, .string ⟨#[]⟩] 79)) (a := ⟨b, 1, none⟩) (u := .int .i64 l.magic) (by rw [World.cell?_alloc_lt _ _ _ hbl]; exact hfc)
          have n1 := Near.blk (Blk.new wr 79 #[.int .i64 5, .string ⟨#[]⟩])
          refine wp_region_near_tail 7 (by kernel_rfl) (by kernel_rfl) ?_
          simp only [List.take_succ_cons, List.take_zero, List.drop_succ_cons, List.drop_zero]
          have N1 := Lib.hid n1
          clear n1
          repeat (go_big_quiet_step ((first | (go_at_call 65; exact near_of_same (size_any 5 _)) | (go_at_call 64; exact near_of (number_any l.magic 4 _ hm0 (by omega) (by omega))))))
          refine wpQuiet_nil ?_
          intro x
          have hx := N1.out x
          have hG : wr.grownBy (x.v.setCell ⟨wr.heap.size, 1, none⟩ (.string (numB l.magic 4))) (some wr.heap.size) := grown_from_alloc (only_setCell (only_of_below x.below _) (.inl rfl) _)
          have hxc0 : x.v.cell? ⟨wr.heap.size, 0, none⟩ = some (.int .i64 5) := hx.cell 0
          have hxc1 : x.v.cell? ⟨wr.heap.size, 1, none⟩ = some (.string ⟨#[]⟩) := hx.cell 1
          have hxf := hx.frozen 1
          have hO3 := Lib.hid (own_grown HO.out hG (Nat.le_refl _))
          have hB3 := Lib.hid (HB.out.grown hG hzr (fun q hq => by injection hq with hq; omega))
          have hz3 : W2.heap.size ≤ (x.v.setCell ⟨wr.heap.size, 1, none⟩ (.string (numB l.magic 4))).heap.size := hB3.out.size
          clear n0 N1 hx hG
          go_wp2_with (at_builtin; go_must (refine wpList_push rfl rfl Tryd.underlying39 Tryd.info79 rfl (by decide) hO3.out rfl rfl (by simp) rfl (by intro u hu; simp at hu; rcases hu with rfl | rfl <;> rfl) (by omega) (by omega) hz3 ?_); intro v' w' hown' hg _)
          have hB4 := below_push hB3.out hO3.out (Nat.le_refl _) hz3 hg
          have hO4 : w'.ownsRow W2.heap.size 79 2 v' (l.askL (kindsL.take 2)).length (optCells (l.askL (kindsL.take 2))) := by
            rw [HE.out, optCells_append, List.length_append]; exact hown'
          clear hown' hg hO3 hB3
          go_roundw
          case rel => exact ⟨2, by omega, rfl, hO4, hB4⟩
          case measure => simp [intOf]
      · have hkc : wr.cell? ⟨b + 1, 2, none⟩ = some (.int .i64 17) := HK.out.cell 2
        have hap : l.askL (kindsL.take 3) = l.askL (kindsL.take 2 ++ [17]) := rfl
        rcases ha : l.asks 17 with _ | _
        · have HE := Lib.hid (show l.askL (kindsL.take 3) = l.askL (kindsL.take 2) from hap.trans (askL_miss l _ _ ha))
          clear hap
          go_wp2_with (go_at_call 56; refine (asks_any b l 17 _ HS.out).mono ?_; rintro e w' ⟨rfl, rfl⟩)
          go_roundw
          case rel => exact ⟨3, by omega, rfl, by rw [HE.out]; exact HO.out, HB.out⟩
          case measure => simp [intOf]
        · have HE := Lib.hid (show l.askL (kindsL.take 3) = l.askL (kindsL.take 2) ++ [l.opt 17] from hap.trans (askL_hit l _ _ ha))
          clear hap
          have hfc : wr.cell? ⟨b, 2, none⟩ = some (.int .i64 l.mrru) := HS.out.cells.c2
          have hbl : b < wr.heap.size := HS.out.lt
          go_wp2_with (first | (go_at_call 56; refine (asks_any b l 17 _ HS.out).mono ?_; rintro e w' ⟨rfl, rfl⟩) | (go_at_call 63; refine (field_any b 17 (.pointer (some ⟨b, 2, none⟩)) rfl _).mono ?_; rintro e w' ⟨rfl, rfl⟩))
          have n0 := Near.cell (w := wr.alloc (.cells #[.int .i64 17, .string ⟨#[]⟩] 79)) (a := ⟨b, 2, none⟩) (u := .int .i64 l.mrru) (by rw [World.cell?_alloc_lt _ _ _ hbl]; exact hfc)
          have n1 := Near.blk (Blk.new wr 79 #[.int .i64 17, .string ⟨#[]⟩])
          refine wp_region_near_tail 7 (by kernel_rfl) (by kernel_rfl) ?_
          simp only [List.take_succ_cons, List.take_zero, List.drop_succ_cons, List.drop_zero]
          have N1 := Lib.hid n1
          clear n1
          repeat (go_big_quiet_step ((first | (go_at_call 65; exact near_of_same (size_any 17 _)) | (go_at_call 64; exact near_of (number_any l.mrru 2 _ hu1.1 (by omega) (by omega))))))
          refine wpQuiet_nil ?_
          intro x
          have hx := N1.out x
          have hG : wr.grownBy (x.v.setCell ⟨wr.heap.size, 1, none⟩ (.string (numB l.mrru 2))) (some wr.heap.size) := grown_from_alloc (only_setCell (only_of_below x.below _) (.inl rfl) _)
          have hxc0 : x.v.cell? ⟨wr.heap.size, 0, none⟩ = some (.int .i64 17) := hx.cell 0
          have hxc1 : x.v.cell? ⟨wr.heap.size, 1, none⟩ = some (.string ⟨#[]⟩) := hx.cell 1
          have hxf := hx.frozen 1
          have hO3 := Lib.hid (own_grown HO.out hG (Nat.le_refl _))
          have hB3 := Lib.hid (HB.out.grown hG hzr (fun q hq => by injection hq with hq; omega))
          have hz3 : W2.heap.size ≤ (x.v.setCell ⟨wr.heap.size, 1, none⟩ (.string (numB l.mrru 2))).heap.size := hB3.out.size
          clear n0 N1 hx hG
          go_wp2_with (at_builtin; go_must (refine wpList_push rfl rfl Tryd.underlying39 Tryd.info79 rfl (by decide) hO3.out rfl rfl (by simp) rfl (by intro u hu; simp at hu; rcases hu with rfl | rfl <;> rfl) (by omega) (by omega) hz3 ?_); intro v' w' hown' hg _)
          have hB4 := below_push hB3.out hO3.out (Nat.le_refl _) hz3 hg
          have hO4 : w'.ownsRow W2.heap.size 79 2 v' (l.askL (kindsL.take 3)).length (optCells (l.askL (kindsL.take 3))) := by
            rw [HE.out, optCells_append, List.length_append]; exact hown'
          clear hown' hg hO3 hB3
          go_roundw
          case rel => exact ⟨3, by omega, rfl, hO4, hB4⟩
          case measure => simp [intOf]
      · have hkc : wr.cell? ⟨b + 1, 3, none⟩ = some (.int .i64 18) := HK.out.cell 3
        have hap : l.askL (kindsL.take 4) = l.askL (kindsL.take 3 ++ [18]) := rfl
        rcases ha : l.asks 18 with _ | _
        · have HE := Lib.hid (show l.askL (kindsL.take 4) = l.askL (kindsL.take 3) from hap.trans (askL_miss l _ _ ha))
          clear hap
          go_wp2_with (go_at_call 56; refine (asks_any b l 18 _ HS.out).mono ?_; rintro e w' ⟨rfl, rfl⟩)
          go_roundw
          case rel => exact ⟨4, by omega, rfl, by rw [HE.out]; exact HO.out, HB.out⟩
          case measure => simp [intOf]
        · have HE := Lib.hid (show l.askL (kindsL.take 4) = l.askL (kindsL.take 3) ++ [l.opt 18] from hap.trans (askL_hit l _ _ ha))
          clear hap
          have hO3 := Lib.hid (HO.out.alloc (.cells #[.int .i64 18, .string ⟨#[]⟩] 79))
          have hB3 := Lib.hid (HB.out.alloc hzr (.cells #[.int .i64 18, .string ⟨#[]⟩] 79))
          go_wp2_with (first | (go_at_call 56; refine (asks_any b l 18 _ HS.out).mono ?_; rintro e w' ⟨rfl, rfl⟩) | (go_at_call 63; refine (field_any b 18 (.pointer none) rfl _).mono ?_; rintro e w' ⟨rfl, rfl⟩) | (at_builtin; refine wpList_push rfl rfl Tryd.underlying39 Tryd.info79 rfl (by decide) hO3.out rfl rfl (by simp) rfl (by intro u hu; simp at hu; rcases hu with rfl | rfl <;> rfl) (by omega) (by omega) hB3.out.size ?_; intro v' w' hown' hg _))
          have hB4 := below_push hB3.out hO3.out (Nat.le_refl _) hB3.out.size hg
          have hO4 : w'.ownsRow W2.heap.size 79 2 v' (l.askL (kindsL.take 4)).length (optCells (l.askL (kindsL.take 4))) := by
            rw [HE.out, optCells_append, List.length_append]; exact hown'
          clear hown' hg hO3 hB3
          go_roundw
          case rel => exact ⟨4, by omega, rfl, hO4, hB4⟩
          case measure => simp [intOf]
      · have hkc : wr.cell? ⟨b + 1, 4, none⟩ = some (.int .i64 19) := HK.out.cell 4
        have hap : l.askL (kindsL.take 5) = l.askL (kindsL.take 4 ++ [19]) := rfl
        rcases ha : l.asks 19 with _ | _
        · have HE := Lib.hid (show l.askL (kindsL.take 5) = l.askL (kindsL.take 4) from hap.trans (askL_miss l _ _ ha))
          clear hap
          go_wp2_with (go_at_call 56; refine (asks_any b l 19 _ HS.out).mono ?_; rintro e w' ⟨rfl, rfl⟩)
          go_roundw
          case rel => exact ⟨5, by omega, rfl, by rw [HE.out]; exact HO.out, HB.out⟩
          case measure => simp [intOf]
        · have HE := Lib.hid (show l.askL (kindsL.take 5) = l.askL (kindsL.take 4) ++ [l.opt 19] from hap.trans (askL_hit l _ _ ha))
          clear hap
          have hlw : w.heap.size < wr.heap.size := World.block_lt_of_cell? _ _ hd
          have hO3 := Lib.hid (HO.out.alloc (.cells #[.int .i64 19, .string l.disc] 79))
          have hB3 := Lib.hid (HB.out.alloc hzr (.cells #[.int .i64 19, .string l.disc] 79))
          go_wp2_with (first | (go_at_call 56; refine (asks_any b l 19 _ HS.out).mono ?_; rintro e w' ⟨rfl, rfl⟩) | (go_at_call 63; refine (field_any b 19 (.pointer none) rfl _).mono ?_; rintro e w' ⟨rfl, rfl⟩) | (at_builtin; refine wpList_push rfl rfl Tryd.underlying39 Tryd.info79 rfl (by decide) hO3.out rfl rfl (by simp) rfl (by intro u hu; simp at hu; rcases hu with rfl | rfl <;> rfl) (by omega) (by omega) hB3.out.size ?_; intro v' w' hown' hg _))
          have hB4 := below_push hB3.out hO3.out (Nat.le_refl _) hB3.out.size hg
          have hO4 : w'.ownsRow W2.heap.size 79 2 v' (l.askL (kindsL.take 5)).length (optCells (l.askL (kindsL.take 5))) := by
            rw [HE.out, optCells_append, List.length_append]; exact hown'
          clear hown' hg hO3 hB3
          go_roundw
          case rel => exact ⟨5, by omega, rfl, hO4, hB4⟩
          case measure => simp [intOf]
      · have hkc : wr.cell? ⟨b + 1, 5, none⟩ = some (.int .i64 23) := HK.out.cell 5
        have hap : l.askL (kindsL.take 6) = l.askL (kindsL.take 5 ++ [23]) := rfl
        rcases ha : l.asks 23 with _ | _
        · have HE := Lib.hid (show l.askL (kindsL.take 6) = l.askL (kindsL.take 5) from hap.trans (askL_miss l _ _ ha))
          clear hap
          go_wp2_with (go_at_call 56; refine (asks_any b l 23 _ HS.out).mono ?_; rintro e w' ⟨rfl, rfl⟩)
          go_roundw
          case rel => exact ⟨6, by omega, rfl, by rw [HE.out]; exact HO.out, HB.out⟩
          case measure => simp [intOf]
        · have HE := Lib.hid (show l.askL (kindsL.take 6) = l.askL (kindsL.take 5) ++ [l.opt 23] from hap.trans (askL_hit l _ _ ha))
          clear hap
          have hfc : wr.cell? ⟨b, 5, none⟩ = some (.int .i64 l.num) := HS.out.cells.c5
          have hbl : b < wr.heap.size := HS.out.lt
          go_wp2_with (first | (go_at_call 56; refine (asks_any b l 23 _ HS.out).mono ?_; rintro e w' ⟨rfl, rfl⟩) | (go_at_call 63; refine (field_any b 23 (.pointer (some ⟨b, 5, none⟩)) rfl _).mono ?_; rintro e w' ⟨rfl, rfl⟩))
          have n0 := Near.cell (w := wr.alloc (.cells #[.int .i64 23, .string ⟨#[]⟩] 79)) (a := ⟨b, 5, none⟩) (u := .int .i64 l.num) (by rw [World.cell?_alloc_lt _ _ _ hbl]; exact hfc)
          have n1 := Near.blk (Blk.new wr 79 #[.int .i64 23, .string ⟨#[]⟩])
          refine wp_region_near_tail 7 (by kernel_rfl) (by kernel_rfl) ?_
          simp only [List.take_succ_cons, List.take_zero, List.drop_succ_cons, List.drop_zero]
          have N1 := Lib.hid n1
          clear n1
          repeat (go_big_quiet_step ((first | (go_at_call 65; exact near_of_same (size_any 23 _)) | (go_at_call 64; exact near_of (number_any l.num 2 _ hn0 (by omega) (by omega))))))
          refine wpQuiet_nil ?_
          intro x
          have hx := N1.out x
          have hG : wr.grownBy (x.v.setCell ⟨wr.heap.size, 1, none⟩ (.string (numB l.num 2))) (some wr.heap.size) := grown_from_alloc (only_setCell (only_of_below x.below _) (.inl rfl) _)
          have hxc0 : x.v.cell? ⟨wr.heap.size, 0, none⟩ = some (.int .i64 23) := hx.cell 0
          have hxc1 : x.v.cell? ⟨wr.heap.size, 1, none⟩ = some (.string ⟨#[]⟩) := hx.cell 1
          have hxf := hx.frozen 1
          have hO3 := Lib.hid (own_grown HO.out hG (Nat.le_refl _))
          have hB3 := Lib.hid (HB.out.grown hG hzr (fun q hq => by injection hq with hq; omega))
          have hz3 : W2.heap.size ≤ (x.v.setCell ⟨wr.heap.size, 1, none⟩ (.string (numB l.num 2))).heap.size := hB3.out.size
          clear n0 N1 hx hG
          go_wp2_with (at_builtin; go_must (refine wpList_push rfl rfl Tryd.underlying39 Tryd.info79 rfl (by decide) hO3.out rfl rfl (by simp) rfl (by intro u hu; simp at hu; rcases hu with rfl | rfl <;> rfl) (by omega) (by omega) hz3 ?_); intro v' w' hown' hg _)
          have hB4 := below_push hB3.out hO3.out (Nat.le_refl _) hz3 hg
          have hO4 : w'.ownsRow W2.heap.size 79 2 v' (l.askL (kindsL.take 6)).length (optCells (l.askL (kindsL.take 6))) := by
            rw [HE.out, optCells_append, List.length_append]; exact hown'
          clear hown' hg hO3 hB3
          go_roundw
          case rel => exact ⟨6, by omega, rfl, hO4, hB4⟩
          case measure => simp [intOf]
    · obtain rfl : m = 6 := by omega
      have HO := Lib.hid hown
      have HB := Lib.hid hb
      clear hown hb
      go_wp2
      go_ret2
      exact ⟨_, rfl, by rw [HA.out]; exact own_base HO.out hz2, below_trans' HB2.out hz2 HB.out⟩

theorem ask_any (l : LinkD) (w : World) :
    Calls Tryd.prog 46 #[.agg #[.int .i64 l.mru, .int .i64 l.magic, .int .i64 l.mrru, .bool l.short, .string l.disc, .int .i64 l.num]] w fun e w' =>
      ∃ v, e = .returned (.tuple #[v, .int .i64 (if l.may then 0 else 1400)]) ∧ Asked l w w' v := by
  rcases h : l.may with _ | _
  · exact (ask_no l w h).mono fun e w' hh => ⟨_, hh.1, hh.2⟩
  · exact ask_yes l w h
end Go.Proofs.YthlfghheciamcaaDoor
