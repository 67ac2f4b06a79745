/-
  The contracts of the leaves of package policy (and of the document's own tests on a link): units, sizes, whether a link may be, numbers in bytes and back.
  Conditions: as each states.
-/
import Derived.Test.YthlfghheciamcaaDoorChecked
import Derived.Test.YthlfghheciamcaaDoorQ
import Derived.Test.YthlfghheciamcaaDoorP
import Derived.Test.YthlfghheciamcaaDoorS
import Derived.Deep.LoopGhost
import Derived.Deep.DeepCutAuto
import Derived.Lib.ConvBytes
import Derived.KernelRfl
namespace Go.Proofs.YthlfghheciamcaaDoor
open Go.RowKit
set_option linter.unusedVariables false

theorem unit_any (x : Int) (w : World) : Calls Tryd.prog 31 #[.int .i64 x] w fun e w' => e = .returned (.bool (unitB x)) ∧ w = w' := by
  by_cases h1 : 128 ≤ x
  · go_enter Tryd.func31, Tryd.ntmps31
    go_wp2
    go_ret
    exact ⟨by simp [unitB, h1], rfl⟩
  · have h2 : unitB x = false := by simp [unitB, h1]
    have H := Lib.hid h2
    clear h2
    go_enter Tryd.func31, Tryd.ntmps31
    go_wp2
    go_ret
    exact ⟨by rw [H.out]; rfl, rfl⟩
theorem unit_ref (x : Int) (w : World) : Calls Tryd.prog 32 #[.int .i64 x] w fun e w' => e = .returned (.bool (unitB x)) ∧ w = w' := by
  by_cases h1 : 128 ≤ x
  · go_enter Tryd.func32, Tryd.ntmps32
    go_wp2
    go_ret
    exact ⟨by simp [unitB, h1], rfl⟩
  · have h2 : unitB x = false := by simp [unitB, h1]
    have H := Lib.hid h2
    clear h2
    go_enter Tryd.func32, Tryd.ntmps32
    go_wp2
    go_ret
    exact ⟨by rw [H.out]; rfl, rfl⟩
theorem size_ref (x : Int) (w : World) : Calls Tryd.prog 25 #[.int .i64 x] w fun e w' => e = .returned (.bool (sizeB x)) ∧ w = w' := by
  by_cases h : x = 0
  · subst h
    go_enter Tryd.func25, Tryd.ntmps25
    go_wp2_with (go_at_call 32; refine (unit_ref _ _).mono ?_; rintro e w' ⟨rfl, rfl⟩)
    go_ret
    exact ⟨rfl, rfl⟩
  · have h2 : sizeB x = unitB x := by simp [sizeB, h]
    have H := Lib.hid h2
    have h3 : (x == 0) = false := by simp [h]
    clear h2 h
    go_enter Tryd.func25, Tryd.ntmps25
    go_wp2_with (go_at_call 32; refine (unit_ref _ _).mono ?_; rintro e w' ⟨rfl, rfl⟩)
    go_ret
    exact ⟨by rw [H.out]; rfl, rfl⟩

theorem size_any (k : Int) (w : World) : Calls Tryd.prog 65 #[.int .i64 k] w fun e w' => e = .returned (.int .i64 (sizeK k)) ∧ w = w' := by
  by_cases h0 : k = 1
  · subst h0
    go_enter Tryd.func65, Tryd.ntmps65
    go_wp2
    go_ret
    exact ⟨rfl, rfl⟩
  by_cases h1 : k = 17
  · subst h1
    go_enter Tryd.func65, Tryd.ntmps65
    go_wp2
    go_ret
    exact ⟨rfl, rfl⟩
  by_cases h2 : k = 23
  · subst h2
    go_enter Tryd.func65, Tryd.ntmps65
    go_wp2
    go_ret
    exact ⟨rfl, rfl⟩
  by_cases h3 : k = 5
  · subst h3
    go_enter Tryd.func65, Tryd.ntmps65
    go_wp2
    go_ret
    exact ⟨rfl, rfl⟩
  by_cases h4 : k = 18
  · subst h4
    go_enter Tryd.func65, Tryd.ntmps65
    go_wp2
    go_ret
    exact ⟨rfl, rfl⟩
  by_cases h5 : k = 19
  · subst h5
    go_enter Tryd.func65, Tryd.ntmps65
    go_wp2
    go_ret
    exact ⟨rfl, rfl⟩
  have e : sizeK k = -2 := by simp [sizeK, *]
  have H := Lib.hid e
  clear e
  go_enter Tryd.func65, Tryd.ntmps65
  go_wp2
  go_ret
  exact ⟨by rw [H.out]; rfl, rfl⟩

theorem take_snoc (s : ByteArray) (k : Nat) (h : k < s.size) : s.data.toList.take (k + 1) = s.data.toList.take k ++ [s[k]] := by
  rw [List.take_succ_eq_append_getElem (by simpa using h)]; rfl

theorem value_any (s : ByteArray) (w : World) (hs : s.size ≤ 140737488351232) : Calls Tryd.prog 70 #[.string s] w fun e w' => e = .returned (.int .i64 (valB s)) ∧ w = w' := by
  go_enter Tryd.func70, Tryd.ntmps70
  go_wp2
  go_loop [3, 4, 7] (fun x i k => ∃ n : Nat, n ≤ s.size ∧ k = .int .i64 n ∧ x = .int .i64 (valL (s.data.toList.take n))) (fun _ _ k => s.size - (intOf k).toNat)
  case atStart => exact ⟨0, Nat.zero_le _, rfl, rfl⟩
  case round =>
    obtain ⟨n, hn, rfl, rfl⟩ := hrel
    by_cases hlt : n < s.size
    · have hsn := valL_snoc (s.data.toList.take n) s[n]
      have hts := take_snoc s n hlt
      have HS : Hid (valL (s.data.toList.take (n + 1)) = shiftIn (valL (s.data.toList.take n)) s[n]) := by rw [hts]; exact hsn
      clear hsn hts
      go_wp2
      go_round
      case rel => exact ⟨n + 1, by omega, by go_num, by rw [HS.out, wrap_byte]; rfl⟩
      case measure => simp [intOf]; omega
    · go_wp2
      go_ret
      exact ⟨congrArg (fun x => Ending.returned (.int .i64 x)) (by rw [List.take_of_length_le (by simp; omega)]; rfl), rfl⟩

theorem Tryd.info5 : (Tryd.prog.info? 5).map (fun i => (i.zero, i.size, i.bytes)) = some (some (.int .u8 0), 1, 1) := by kernel_rfl

theorem number_any (x : Int) (k : Nat) (w : World) (hx : 0 ≤ x) (hx2 : x ≤ 4294967295) (hk : k ≤ 4) :
    Calls Tryd.prog 64 #[.int .i64 x, .int .i64 k] w fun e w' => e = .returned (.string (numB x k)) ∧ Below w.heap.size w w' := by
  go_enter Tryd.func64, Tryd.ntmps64
  go_wp2
  go_loopw [5, 6] (fun v i wr => ∃ j : Nat, j ≤ k ∧ i = .int .i64 ((j : Int) - 1) ∧ wr.ownsRow w.heap.size 5 1 v (k - j) (byteVals ((numL x k).take (k - j))) ∧ Below w.heap.size w wr)
    (fun _ i _ => (intOf i + 1).toNat)
  case atStart => exact ⟨k, Nat.le_refl _, rfl, by simpa [byteVals] using World.ownsRow_nil _ _ _ _, Below.refl _ _⟩
  case round =>
    obtain ⟨j, hj, rfl, hown, hb⟩ := hrel
    by_cases hlt : 0 < j
    · go_wp2_with (at_builtin; refine wpList_push rfl rfl Tryd.underlying77 Tryd.info5 rfl (by decide) hown rfl rfl (by simp) rfl (by intro u hu; simp at hu; subst hu; rfl) (by omega) (by omega) hb.size ?_; intro v' w' hown' hg _)
      have hb' := below_push hb hown (Nat.le_refl _) hb.size hg
      have hv : byteVals ((numL x k).take (k - j)) ++ [.int .u8 (x / 2 ^ (8 * (j - 1)) % 256)] = byteVals ((numL x k).take (k - (j - 1))) := by
        rw [show k - (j - 1) = k - j + 1 by omega, numL_take x k (k - j) (by omega)]
        simp only [byteVals, List.map_append, List.map_cons, List.map_nil, byteAt_toNat]
        rw [show k - 1 - (k - j) = j - 1 by omega]
        rfl
      have hown2 : w'.ownsRow w.heap.size 5 1 v' (k - (j - 1)) (byteVals ((numL x k).take (k - (j - 1)))) := by
        rw [← hv, show k - (j - 1) = k - j + 1 by omega]; exact hown'
      clear hown' hg hown hv hb
      go_roundw
      case rel => exact ⟨j - 1, by omega, by go_num, hown2, hb'⟩
      case measure => simp [intOf]; omega
    · obtain rfl : j = 0 := by omega
      have hown2 : wr.ownsRow w.heap.size 5 1 u5 k (byteVals (numL x k)) := by
        rw [Nat.sub_zero, List.take_of_length_le (by rw [numL_length]; omega)] at hown; exact hown
      have hcv := run_string_row (P := Tryd.prog) Tryd.underlying77 Tryd.underlying5 Tryd.underlying9 hown2
      clear hown hown2
      go_wp2
      go_ret
      exact ⟨rfl, hb⟩

end Go.Proofs.YthlfghheciamcaaDoor
