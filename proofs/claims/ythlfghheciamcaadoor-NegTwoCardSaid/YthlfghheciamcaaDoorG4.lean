/-
  Contracts: slices.Clone and neg.clone at options; slices.Equal at options.
  Conditions: as each states.
-/
import Derived.Test.YthlfghheciamcaaDoorG3
import Derived.WalkSpells
namespace Go.Proofs.YthlfghheciamcaaDoor
open Go.RowKit
set_option linter.unusedVariables false

set_option maxRecDepth 100000 in
set_option maxHeartbeats 1000000 in
theorem sclone_any (os : List OptD) (A : Option Addr) (n c : Nat) (w : World) (hr : Reads w w.heap.size 2 A n (optCells os)) (hn : os.length = n) (hn2 : n * 24 ≤ 140737488351232) :
    Calls Tryd.prog 38 #[.slice A n c] w fun e w' => ∃ v, e = .returned v ∧ w'.ownsRow w.heap.size 79 2 v os.length (optCells os) ∧ Below w.heap.size w w' := by
  rcases A with _ | ad
  · have hn0 : n = 0 := by
      rcases Nat.eq_zero_or_pos n with h | h
      · exact h
      · obtain ⟨ad, h, _⟩ := hr.2 h
        cases h
    subst hn0
    have ho : os = [] := List.eq_nil_of_length_eq_zero hn
    subst ho
    go_enter Tryd.func38, Tryd.ntmps38
    have hq := fun w => Lib.run_eql_slice_nil (P := Tryd.prog) w 39 79 none 0 c 0 0 Tryd.underlying39
    go_wp2_with fail
    go_ret
    exact ⟨_, rfl, World.ownsRow_nil _ _ _ _, Below.refl _ _⟩
  · obtain ⟨i0, hi0, hz0, hz1, hz2⟩ := info_parts Tryd.info79
    go_enter Tryd.func38, Tryd.ntmps38
    have hq := fun w => Lib.run_eql_slice_nil (P := Tryd.prog) w 39 79 (some ad) n c 0 0 Tryd.underlying39
    have hown0 : (w.alloc (.cells #[] 79)).ownsRow w.heap.size 79 2 (.slice (some ⟨w.heap.size, 0, none⟩) 0 0) 0 [] :=
      ⟨by simp, .inr ⟨w.heap.size, 0, #[], rfl, Nat.le_refl _, heap_alloc_new w _, Nat.le_refl _, Nat.zero_le _, by simp, by simp⟩⟩
    go_wp2_with (at_builtin; refine wpList_append_any _ rfl (.tmp 5) (.tmp 6) 39 rfl w.heap.size 79 i0 (.agg #[.int .i64 0, .string ⟨#[]⟩]) 2 24 Tryd.underlying39 hi0 hz0 hz1 hz2 rfl (by omega) (.slice (some ⟨w.heap.size, 0, none⟩) 0 0) 0 [] rfl hown0 w.heap.size (some ad) n c (optCells os) rfl (hr.alloc (Nat.le_refl _) _) (optCells_one_cell os) (by simp only [maxLen]; omega) (by omega) (by simp) ?_; intro v' w' hown' hg hat)
    go_ret
    have hb : Below w.heap.size w w' := ((Below.refl _ _).alloc (Nat.le_refl _) _).grown hg (by simp) (fun k hk => by simp [Value.ownBlock] at hk; omega)
    exact ⟨_, rfl, by simpa [hn] using hown', hb⟩

theorem clone_any (os : List OptD) (A : Option Addr) (n c : Nat) (w : World) (hr : Reads w w.heap.size 2 A n (optCells os)) (hn : os.length = n) (hn2 : n * 24 ≤ 140737488351232) :
    Calls Tryd.prog 28 #[.slice A n c] w fun e w' => ∃ v, e = .returned v ∧ w'.ownsRow w.heap.size 79 2 v os.length (optCells os) ∧ Below w.heap.size w w' := by
  have HC := Lib.hid (sclone_any os A n c w hr hn hn2)
  clear hr
  go_enter Tryd.func28, Tryd.ntmps28
  go_wp2_with (go_at_call 38; refine HC.out.mono ?_; rintro e w' ⟨v, rfl, ho, hb⟩)
  go_ret
  exact ⟨v, rfl, ho, hb⟩
theorem equal_any (os ps : List OptD) (A B : Option Addr) (n m c d : Nat) (w : World) (hr : Reads w w.heap.size 2 A n (optCells os)) (hn : os.length = n) (hn2 : n ≤ 9223372036854775806)
    (hr2 : Reads w w.heap.size 2 B m (optCells ps)) (hm : ps.length = m) (hm2 : m ≤ 9223372036854775806) :
    Calls Tryd.prog 40 #[.slice A n c, .slice B m d] w fun e w' => e = .returned (.bool (decide (os = ps))) ∧ Below w.heap.size w w' := by
  rcases hnm : ((n : Int) != (m : Int)) with _ | _
  · have hnm' : n = m := by have := bne_eq_false_iff_eq.1 hnm; omega
    subst hnm'
    go_enter Tryd.func40, Tryd.ntmps40
    go_wp2
    go_loopw [4, 5, 13] (fun r _ i wr => ∃ k : Nat, k ≤ n ∧ i = .int .i64 k ∧ r = .bool false ∧ os.take k = ps.take k ∧ Below w.heap.size w wr) (fun _ _ i _ => n - (intOf i).toNat)
    case atStart => exact ⟨0, Nat.zero_le _, rfl, rfl, by simp, Below.refl _ _⟩
    case round =>
      obtain ⟨k, hk, rfl, rfl, ht, hb⟩ := hrel
      have HT := Lib.hid ht
      clear ht
      by_cases hlt : k < n
      · obtain ⟨ad, rfl, hbl, hk0, hk1⟩ := opt_at hr hb k (by omega) hn
        obtain ⟨be, rfl, hbl2, hk2, hk3⟩ := opt_at hr2 hb k (by omega) hm
        have HS := Lib.hid (show os.take (k + 1) = os.take k ++ [os[k]'(by omega)] from by rw [List.take_add_one, List.getElem?_eq_getElem (by omega)]; rfl)
        have HS2 := Lib.hid (show ps.take (k + 1) = ps.take k ++ [ps[k]'(by omega)] from by rw [List.take_add_one, List.getElem?_eq_getElem (by omega)]; rfl)
        have HD := Lib.hid (show os[k]'(by omega) ≠ ps[k]'(by omega) → os ≠ ps from fun h e => h (by subst e; rfl))
        generalize os[k]'(by omega) = o at hk0 hk1 HS HD
        generalize ps[k]'(by omega) = p at hk2 hk3 HS2 HD
        have hne : ∀ w, (binOp .neq 79 (.agg #[.int .i64 o.kind, .string o.data]) (.agg #[.int .i64 p.kind, .string p.data])).run Tryd.prog w = .ok (.bool (!o.eqB p)) w := opt_neq o.kind p.kind o.data p.data
        rcases hq : o.eqB p with _ | _
        · have HD2 := Lib.hid (HD.out (by rw [OptD.eqB_iff] at hq; exact of_decide_eq_false hq))
          clear HD HS HS2 HT
          go_wp2_with fail
          go_quiet (fail)
          go_wp2
          go_ret
          exact ⟨ret_bool (by simp [HD2.out]), below_drewN hb _⟩
        · have HD2 := Lib.hid (show o = p by rw [OptD.eqB_iff] at hq; exact of_decide_eq_true hq)
          clear HD
          go_wp2_with fail
          go_quiet (fail)
          go_wp2
          go_roundw
          case rel => exact ⟨k + 1, by omega, by go_num, rfl, by rw [HS.out, HS2.out, HT.out, HD2.out], below_drewN hb _⟩
          case measure => simp [intOf]; omega
      · obtain rfl : k = n := by omega
        go_wp2
        go_ret
        refine ⟨ret_bool ?_, hb⟩
        have := HT.out
        rw [List.take_of_length_le (by omega), List.take_of_length_le (by omega)] at this
        simp [this]
  · have hne : ¬ os = ps := fun h => by subst h; simp at hnm; omega
    have HN := Lib.hid hne
    clear hne
    go_enter Tryd.func40, Tryd.ntmps40
    go_wp2
    go_ret
    exact ⟨ret_bool (by simp [HN.out]), Below.refl _ _⟩
end Go.Proofs.YthlfghheciamcaaDoor
