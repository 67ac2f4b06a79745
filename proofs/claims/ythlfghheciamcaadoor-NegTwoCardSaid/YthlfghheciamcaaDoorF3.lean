/-
  Contracts of package fsm: a step of the table: the walk.
  Conditions: the variable internal/bytealg.MaxLen holds an int; as each states.
-/
import Derived.Test.YthlfghheciamcaaDoorF2
namespace Go.Proofs.YthlfghheciamcaaDoor
open Go.RowKit
set_option linter.unusedVariables false

theorem head_eq (c : ByteArray) (h : 0 < c.size) : headOf c = (((c[0]'h).toNat : Int) - 48) % 256 := by
  obtain ⟨⟨l⟩⟩ := c
  cases l with
  | nil => simp [ByteArray.size] at h
  | cons a l => rfl
def intCells (l : List Int) : List Value := l.map fun x => .int .i64 x
theorem Tryd.info3 : (Tryd.prog.info? 3).map (fun i => (i.zero, i.size, i.bytes)) = some (some (.int .i64 0), 1, 8) := by kernel_rfl
theorem names_at (j : Nat) (h : j < 14) : nameCells[j]? = some (.string (namesL[j]?.getD ⟨#[]⟩)) := by
  have hl : namesL.length = 14 := rfl
  unfold nameCells
  simp [hl, h]
set_option maxRecDepth 100000 in
set_option maxHeartbeats 4000000 in
theorem step_in (t : Nat) (s e : Nat) (hs : s < 10) (he : e < 16) (c : ByteArray) (w : World) (ht : w.cell? ⟨t, e * 10 + s, none⟩ = some (.string c)) (hm : HasMax w) (hok : cellOk c = true) :
    Calls Tryd.prog 43 #[.pointer (some ⟨t, 0, none⟩), .int .i64 s, .int .i64 e] w fun r w' =>
      ∃ v, r = .returned (.tuple #[.int .i64 (stepC c).1, v, .int .i64 (stepC c).2.2]) ∧ w'.ownsRow w.heap.size 3 1 v (stepC c).2.1.length (intCells (stepC c).2.1) ∧ Below w.heap.size w w' := by
  go_enter Tryd.func43, Tryd.ntmps43
  go_wp2_with fail
  · go_ret3
    have hst : stepC c = (0, [], 1001) := by unfold stepC; rw [if_pos (by assumption)]
    rw [hst]
    exact ⟨.slice none 0 0, rfl, World.ownsRow_nil _ _ _ _, Below.refl _ _⟩
  have hdash := ‹(c.toList == [45]) = false›
  obtain ⟨m, hm0⟩ := hm
  have hsz : 1 ≤ c.size ∧ c.size ≤ 20 := by
    simp only [cellOk, Bool.and_eq_true, decide_eq_true_eq] at hok
    exact hok.1
  have hz0 : 0 < c.size := by omega
  have hz1 : (0 : Int) < (c.size : Int) := by omega
  have hcut := Tryd.strings_Cut c ⟨#[47]⟩ m w (by omega) hm0
  rcases hc2 : (Lib.cut c.data.toList [47]).2.2 with _ | _
  · have hst : stepC c = (headOf c, [], 0) := by unfold stepC; rw [if_neg (by rw [hdash]; decide), hc2]; rfl
    refine hcut.mono ?_
    rintro r w1 ⟨rfl, nq, rfl⟩
    simp only [hc2]
    go_wp2_with fail
    go_ret3
    rw [head_eq c hz0]
    exact ⟨.slice none 0 0, rfl, World.ownsRow_nil _ _ _ _, below_drewN (Below.refl _ _) nq⟩
  · have hst := Lib.hid (show stepC c = (headOf ⟨(Lib.cut c.data.toList [47]).2.1.toArray⟩, actsL (wordsOf ⟨(Lib.cut c.data.toList [47]).1.toArray⟩), 0) by unfold stepC; rw [if_neg (by rw [hdash]; decide), hc2]; rfl)
    have hbd : 1 ≤ (Lib.cut c.data.toList [47]).2.1.length ∧ (Lib.cut c.data.toList [47]).1.length ≤ 20 ∧ (wordsOf ⟨(Lib.cut c.data.toList [47]).1.toArray⟩).length ≤ 20 ∧ (actsL (wordsOf ⟨(Lib.cut c.data.toList [47]).1.toArray⟩)).length ≤ 20 := by
      simp only [cellOk, hc2, Bool.not_true, Bool.false_or, Bool.and_eq_true, decide_eq_true_eq] at hok
      exact hok.2
    refine hcut.mono ?_
    clear hcut
    rintro r w1 ⟨rfl, nq, rfl⟩
    simp only [hc2]
    clear hc2 hok
    generalize (Lib.cut c.data.toList [47]).1 = AL at *
    generalize (Lib.cut c.data.toList [47]).2.1 = NL at *
    go_wp2_with fail
    have hsp := Tryd.strings_Split ⟨AL.toArray⟩ ⟨#[44]⟩ m (w.drewN nq) (by show AL.toArray.size < _; simp; omega) hm0 (by decide)
    refine hsp.mono ?_
    rintro r w2 ⟨rfl, rfl⟩
    go_wp2_with fail
    have hwl : (wordsOf ⟨AL.toArray⟩).length = Lib.countB ⟨AL.toArray⟩ ⟨#[44]⟩ + 1 := Lib.splitB_all ⟨#[44]⟩ (by decide) 0 _ ⟨AL.toArray⟩ rfl
    have hblk : Blk ((w.drewN nq).alloc (.cells ((wordsOf ⟨AL.toArray⟩).map Value.string).toArray 9)) w.heap.size 9 ((wordsOf ⟨AL.toArray⟩).map Value.string).toArray := Blk.new (w.drewN nq) _ _
    have hbel : Below w.heap.size w ((w.drewN nq).alloc (.cells ((wordsOf ⟨AL.toArray⟩).map Value.string).toArray 9)) := (below_drewN (Below.refl _ _) nq).alloc (Nat.le_refl _) _
    have HBLK := Lib.hid hblk
    have HBEL := Lib.hid hbel
    have HWL := Lib.hid hwl
    have hn20 : Lib.countB ⟨AL.toArray⟩ ⟨#[44]⟩ < 20 := by omega
    clear hsp hblk hbel ht
    rw [show Lib.splitB ⟨#[44]⟩ 0 (Lib.countB ⟨AL.toArray⟩ ⟨#[44]⟩) ⟨AL.toArray⟩ = wordsOf ⟨AL.toArray⟩ from rfl]
    generalize hKK : Lib.countB ⟨AL.toArray⟩ ⟨#[44]⟩ = K at *
    generalize wordsOf ⟨AL.toArray⟩ = ws at *
    go_loopw [13, 15, 16, 17, 56] (fun v _ _ _ i wr => ∃ n : Nat, n ≤ K + 1 ∧ i = .int .i64 n ∧ wr.ownsRow (w.heap.size + 1) 3 1 v (actsL (ws.take n)).length (intCells (actsL (ws.take n))) ∧ Blk wr w.heap.size 9 (ws.map Value.string).toArray ∧ Below w.heap.size w wr)
      (fun _ _ _ _ i _ => K + 1 - (intOf i).toNat)
    case atStart => exact ⟨0, Nat.zero_le _, rfl, by simpa [actsL, intCells] using World.ownsRow_nil _ _ _ _, HBLK.out, HBEL.out⟩
    case round =>
      obtain ⟨n, hn, rfl, ho, hbk, hbe⟩ := hrel
      have HO := Lib.hid ho
      have HBK := Lib.hid hbk
      have HBE := Lib.hid hbe
      clear ho hbk hbe HBLK HBEL
      by_cases hlt : n < K + 1
      · have hwn : n < ws.length := by omega
        have c0 : wr.cell? ⟨w.heap.size, n, none⟩ = some (.string (ws[n]'hwn)) := (HBK.out.cell n).trans (by simp [hwn])
        generalize hwd : ws[n]'hwn = word at *
        have hst2 := Lib.hid (actsL_step ws n hwn)
        rw [hwd] at hst2
        go_wp2_with (go_at_call 61; refine (names_any _).mono ?_; rintro r w3 ⟨rfl, rfl⟩)
        obtain ⟨wo, rfl⟩ : ∃ wo : World, wo = wr := ⟨_, rfl⟩
        have hl1 := actsL_len (ws.take n)
        have hl2 : (ws.take n).length ≤ 20 := by simp; omega
        have hzo := HBE.out.size
        have hzk := Blk.lt HBK.out
        clear c0 hwd
        go_loopw [13, 16, 17, 62] (fun v _ _ i wr => ∃ j : Nat, j ≤ 14 ∧ i = .int .i64 j ∧ wr.ownsRow (w.heap.size + 1) 3 1 v (actsL (ws.take n) ++ idxs word j).length (intCells (actsL (ws.take n) ++ idxs word j)) ∧ Blk wr wo.heap.size 9 nameCells ∧ Blk wr w.heap.size 9 (ws.map Value.string).toArray ∧ Below w.heap.size w wr)
          (fun _ _ _ i _ => 14 - (intOf i).toNat)
        case atStart => exact ⟨0, Nat.zero_le _, rfl, by simpa [idxs] using HO.out.alloc (.cells nameCells 9), Blk.new wo 9 nameCells, HBK.out.alloc _, HBE.out.alloc hzo _⟩
        case round =>
          obtain ⟨j, hj, rfl, ho, hnm, hbk, hbe⟩ := hrel
          have HO2 := Lib.hid ho
          have HNM := Lib.hid hnm
          have HBK2 := Lib.hid hbk
          have HBE2 := Lib.hid hbe
          clear ho hnm hbk hbe
          by_cases hj14 : j < 14
          · have c1 : wr.cell? ⟨wo.heap.size, j, none⟩ = some (.string (namesL[j]?.getD ⟨#[]⟩)) := (HNM.out.cell j).trans (names_at j hj14)
            have hstep := Lib.hid (idxs_step word j)
            have hl3 := idxs_len word j
            generalize namesL[j]?.getD ⟨#[]⟩ = nm at *
            rcases hcmp : (nm.toList == word.toList) with _ | _
            · have hne : ¬ nm = word := by
                have := bytes_eq nm word
                rw [hcmp] at this
                exact of_decide_eq_false this.symm
              go_wp2_with fail
              go_roundw
              case rel => exact ⟨j + 1, by omega, by go_num, by rw [hstep.out, if_neg hne, List.append_nil]; exact HO2.out, HNM.out, HBK2.out, HBE2.out⟩
              case measure => simp [intOf]; omega
            · have heq : nm = word := by
                have := bytes_eq nm word
                rw [hcmp] at this
                exact of_decide_eq_true this.symm
              have hz2 := HBE2.out.size
              have hz3 := Blk.lt HNM.out
              have hlen : (actsL (ws.take n) ++ idxs word j).length ≤ 300 := by rw [List.length_append]; omega
              go_wp2_with (at_builtin; go_must (refine wpList_push rfl rfl Tryd.underlying47 Tryd.info3 rfl (by decide) HO2.out rfl rfl (by simp) rfl (by intro u hu; simp at hu; subst hu; rfl) (by omega) (by omega) (by omega) ?_); intro v' w' hown' hg hat)
              refine ⟨⟨j + 1, by omega, by go_num, ?_, Blk.grown HNM.out hg (Ne.symm (own_blk_ne HO2.out HNM.out (by decide))), Blk.grown HBK2.out hg (Ne.symm (own_blk_ne HO2.out HBK2.out (by decide))), below_push HBE2.out HO2.out (by omega) (by omega) hg⟩, by simp [intOf]; omega⟩
              rw [hstep.out, if_pos heq]
              simpa [intCells, Nat.add_assoc] using hown'
          · obtain rfl : j = 14 := by omega
            go_wp2_with fail
            exact ⟨⟨n + 1, by omega, by go_num, by rw [hst2.out]; exact HO2.out, HBK2.out, HBE2.out⟩, by simp [intOf]; omega⟩
      · obtain rfl : n = K + 1 := by omega
        have hz2 : 0 < (⟨NL.toArray⟩ : ByteArray).size := by show 0 < NL.toArray.size; simp; omega
        have hz3 : (0 : Int) < ((⟨NL.toArray⟩ : ByteArray).size : Int) := by omega
        have hlw : ws.length ≤ K + 1 := by omega
        go_wp2_with fail
        go_ret3
        rw [hst.out, head_eq _ hz2]
        refine ⟨u13, rfl, ?_, HBE.out⟩
        have := own_base HO.out (base' := w.heap.size) (by omega)
        rw [List.take_of_length_le hlw] at this
        exact this
end Go.Proofs.YthlfghheciamcaaDoor
