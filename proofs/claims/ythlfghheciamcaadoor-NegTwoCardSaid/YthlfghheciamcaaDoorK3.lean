/-
  Contracts of package policy, third part: the place of the first option of a kind; what is learned; what is better.
  Conditions: as each states.
-/
import Derived.Test.YthlfghheciamcaaDoorK2
import Derived.Test.YthlfghheciamcaaDoorR
namespace Go.Proofs.YthlfghheciamcaaDoor
open Go.RowKit
set_option linter.unusedVariables false

/-- the place of the first option of a kind; -1: none -/
def findFrom (k : Int) : List OptD → Int → Int
  | [], _ => -1
  | o :: os, i => if o.kind == k then i else findFrom k os (i + 1)
def findI (k : Int) (os : List OptD) : Int := findFrom k os 0
theorem findFrom_hit (k : Int) (o : OptD) (os : List OptD) (i : Int) (h : (o.kind == k) = true) : findFrom k (o :: os) i = i := by simp only [findFrom]; rw [if_pos h]
theorem findFrom_miss (k : Int) (o : OptD) (os : List OptD) (i : Int) (h : (o.kind == k) = false) : findFrom k (o :: os) i = findFrom k os (i + 1) := by simp only [findFrom]; rw [if_neg (by rw [h]; decide)]
theorem findFrom_any (k : Int) : ∀ (os : List OptD) (i : Int), 0 ≤ i → (os.any (fun o => o.kind == k) = true → 0 ≤ findFrom k os i) ∧ (os.any (fun o => o.kind == k) = false → findFrom k os i = -1)
  | [], i, h => ⟨fun h => by simp at h, fun _ => rfl⟩
  | o :: os, i, h => by
    have ih := findFrom_any k os (i + 1) (by omega)
    by_cases hk : (o.kind == k) = true
    · rw [findFrom_hit k o os i hk]
      exact ⟨fun _ => h, fun hn => by simp only [List.any_cons, hk, Bool.true_or] at hn; cases hn⟩
    · have hk' : (o.kind == k) = false := by simpa using hk
      rw [findFrom_miss k o os i hk']
      simpa only [List.any_cons, hk', Bool.false_or] using ih

theorem find_test (o : OptD) (k : Int) (b : Nat) (w : World) (hc : w.cell? ⟨b, 0, none⟩ = some (.int .i64 k)) :
    Calls Tryd.prog 69 #[.agg #[.int .i64 o.kind, .string o.data], .pointer (some ⟨b, 0, none⟩)] w fun e w' => e = .returned (.bool (o.kind == k)) ∧ Below w.heap.size w w' := by
  have hb : b < w.heap.size := World.block_lt_of_cell? w _ hc
  go_enter Tryd.func69, Tryd.ntmps69
  go_wp2
  go_ret
  exact ⟨rfl, (Below.refl _ _).alloc (Nat.le_refl _) _⟩

theorem index_any (os : List OptD) (A : Option Addr) (n c : Nat) (k : Int) (b : Nat) (w : World) (hr : Reads w w.heap.size 2 A n (optCells os)) (hn : os.length = n) (hn2 : n ≤ 9223372036854775806)
    (hc : w.cell? ⟨b, 0, none⟩ = some (.int .i64 k)) :
    Calls Tryd.prog 67 #[.slice A n c, .func (.func 69) #[] #[.pointer (some ⟨b, 0, none⟩)]] w fun e w' => e = .returned (.int .i64 (findI k os)) ∧ Below w.heap.size w w' := by
  go_enter Tryd.func67, Tryd.ntmps67
  go_wp2
  go_loopw [4, 5, 8] (fun r i j wr => ∃ m : Nat, m ≤ n ∧ j = .int .i64 m ∧ r = .int .i64 0 ∧ findI k os = findFrom k (os.drop m) m ∧ Below w.heap.size w wr)
    (fun _ _ j _ => n - (intOf j).toNat)
  case atStart => exact ⟨0, Nat.zero_le _, rfl, rfl, rfl, Below.refl _ _⟩
  case round =>
    obtain ⟨m, hm, rfl, rfl, hf, hb⟩ := hrel
    have HF := Lib.hid hf
    clear hf
    have hcr : wr.cell? ⟨b, 0, none⟩ = some (.int .i64 k) := (hb.cell (World.block_lt_of_cell? w _ hc)).trans hc
    by_cases hlt : m < n
    · have hlt' : m < os.length := by omega
      obtain ⟨ad, rfl, hbl, hk0, hk1⟩ := opt_at hr hb m hlt' hn
      have hd : findFrom k (os.drop m) m = if (os[m]'hlt').kind == k then (m : Int) else findFrom k (os.drop (m + 1)) ((m + 1 : Nat) : Int) := by
        rw [List.drop_eq_getElem_cons hlt']; rfl
      have HD := Lib.hid hd
      clear hd
      generalize os[m]'hlt' = o at hk0 hk1 HD
      go_wp2_with (go_at_call 69; refine (find_test o k b _ hcr).mono ?_; rintro e w' ⟨rfl, hb'⟩)
      · have hkk : (o.kind == k) = true := by assumption
        go_ret
        refine ⟨ret_num ?_, below_trans' hb hb.size hb'⟩
        rw [HF.out, HD.out, if_pos hkk]
      · have hkk : (o.kind == k) = false := by assumption
        go_roundw
        case rel => exact ⟨m + 1, by omega, by go_num, rfl, by rw [HF.out, HD.out, if_neg (by rw [hkk]; decide)], below_trans' hb hb.size hb'⟩
        case measure => simp [intOf]; omega
    · obtain rfl : m = n := by omega
      go_wp2
      go_ret
      refine ⟨ret_num ?_, hb⟩
      rw [HF.out, List.drop_of_length_le (by omega)]; rfl
theorem find_any (os : List OptD) (A : Option Addr) (n c : Nat) (k : Int) (w : World) (hr : Reads w w.heap.size 2 A n (optCells os)) (hn : os.length = n) (hn2 : n ≤ 9223372036854775806) :
    Calls Tryd.prog 54 #[.int .i64 k, .slice A n c] w fun e w' => e = .returned (.int .i64 (findI k os)) ∧ Below w.heap.size w w' := by
  have hr' : Reads (w.alloc (.cells #[.int .i64 k] 3)) (w.alloc (.cells #[.int .i64 k] 3)).heap.size 2 A n (optCells os) := (hr.alloc (Nat.le_refl _) _).more (by simp)
  have hi := index_any os A n c k w.heap.size (w.alloc (.cells #[.int .i64 k] 3)) hr' hn hn2 (by simp)
  have HI := Lib.hid hi
  clear hi hr' hr
  go_enter Tryd.func54, Tryd.ntmps54
  go_wp2_with (go_at_call 67; refine HI.out.mono ?_; rintro e w' ⟨rfl, hb⟩)
  go_ret
  exact ⟨rfl, below_trans' ((Below.refl _ _).alloc (Nat.le_refl _) _) (by simp) hb⟩

theorem SideTo.after {w w' : World} {b : Nat} {l' : LinkD} {o : Obj} (h : SideTo (w.alloc o) w' b l') : SideTo w w' b l' :=
  ⟨h.side, grown_from_alloc h.grown⟩
theorem SideTo.kept {w : World} {b : Nat} {l : LinkD} {o : Obj} (h : Side w b l) : SideTo w (w.alloc o) b l :=
  ⟨Blk.alloc h _, only_alloc (World.grownBy.refl w _) o⟩

theorem learn_any (b : Nat) (l : LinkD) (o : OptD) (w : World) (hs : Side w b l) (hk : sizeK o.kind ≠ -2) (hd : o.data.size ≤ 140737488351232) :
    Calls Tryd.prog 58 #[.pointer (some ⟨b, 0, none⟩), .agg #[.int .i64 o.kind, .string o.data]] w fun e w' => e = .returned (.tuple #[]) ∧ SideTo w w' b (l.learn o) := by
  have hset := set_any b l o (w.alloc (.cells #[.int .i64 o.kind, .string o.data] 79)) (Blk.alloc hs _) hk hd
  have HSET := Lib.hid hset
  have HS := Lib.hid hs
  clear hset hs
  obtain ⟨kind, data⟩ := o
  rcases h1 : (kind == 1) with _ | _
  · rcases h17 : (kind == 17) with _ | _
    · rcases h5 : (kind == 5) with _ | _
      · have HL := Lib.hid (show l.learn ⟨kind, data⟩ = l.set ⟨kind, data⟩ by simp only [LinkD.learn, unfitB, h1, h17, h5]; rfl)
        go_enter Tryd.func58, Tryd.ntmps58
        go_wp2_with (first | (go_at_call 70; refine (value_any _ _ hd).mono ?_; rintro e w' ⟨rfl, rfl⟩) | (go_at_call 31; refine (unit_any _ _).mono ?_; rintro e w' ⟨rfl, rfl⟩) | (go_at_call 66; refine HSET.out.mono ?_; rintro e w' ⟨rfl, hto⟩))
        go_end0
        exact ⟨rfl, by rw [HL.out]; exact hto.after⟩
      · rcases hz : (valB data == 0) with _ | _
        · have HL := Lib.hid (show l.learn ⟨kind, data⟩ = l.set ⟨kind, data⟩ by simp only [LinkD.learn, unfitB, h1, h17, h5, hz]; rfl)
          go_enter Tryd.func58, Tryd.ntmps58
          go_wp2_with (first | (go_at_call 70; refine (value_any _ _ hd).mono ?_; rintro e w' ⟨rfl, rfl⟩) | (go_at_call 31; refine (unit_any _ _).mono ?_; rintro e w' ⟨rfl, rfl⟩) | (go_at_call 66; refine HSET.out.mono ?_; rintro e w' ⟨rfl, hto⟩))
          go_end0
          exact ⟨rfl, by rw [HL.out]; exact hto.after⟩
        · have HL := Lib.hid (show l.learn ⟨kind, data⟩ = l by simp only [LinkD.learn, unfitB, h1, h17, h5, hz]; rfl)
          go_enter Tryd.func58, Tryd.ntmps58
          go_wp2_with (first | (go_at_call 70; refine (value_any _ _ hd).mono ?_; rintro e w' ⟨rfl, rfl⟩) | (go_at_call 31; refine (unit_any _ _).mono ?_; rintro e w' ⟨rfl, rfl⟩) | (go_at_call 66; refine HSET.out.mono ?_; rintro e w' ⟨rfl, hto⟩))
          go_end0
          exact ⟨rfl, by rw [HL.out]; exact SideTo.kept HS.out⟩
    · have hk' := beq_iff_eq.1 h17
      subst hk'
      rcases hu : unitB (valB data) with _ | _
      · have HL := Lib.hid (show l.learn ⟨17, data⟩ = l by simp only [LinkD.learn, unfitB, hu]; rfl)
        go_enter Tryd.func58, Tryd.ntmps58
        go_wp2_with (first | (go_at_call 70; refine (value_any _ _ hd).mono ?_; rintro e w' ⟨rfl, rfl⟩) | (go_at_call 31; refine (unit_any _ _).mono ?_; rintro e w' ⟨rfl, rfl⟩) | (go_at_call 66; refine HSET.out.mono ?_; rintro e w' ⟨rfl, hto⟩))
        go_end0
        exact ⟨rfl, by rw [HL.out]; exact SideTo.kept HS.out⟩
      · have HL := Lib.hid (show l.learn ⟨17, data⟩ = l.set ⟨17, data⟩ by simp only [LinkD.learn, unfitB, hu]; rfl)
        go_enter Tryd.func58, Tryd.ntmps58
        go_wp2_with (first | (go_at_call 70; refine (value_any _ _ hd).mono ?_; rintro e w' ⟨rfl, rfl⟩) | (go_at_call 31; refine (unit_any _ _).mono ?_; rintro e w' ⟨rfl, rfl⟩) | (go_at_call 66; refine HSET.out.mono ?_; rintro e w' ⟨rfl, hto⟩))
        go_end0
        exact ⟨rfl, by rw [HL.out]; exact hto.after⟩
  · have hk' := beq_iff_eq.1 h1
    subst hk'
    rcases hu : unitB (valB data) with _ | _
    · have HL := Lib.hid (show l.learn ⟨1, data⟩ = l by simp only [LinkD.learn, unfitB, hu]; rfl)
      go_enter Tryd.func58, Tryd.ntmps58
      go_wp2_with (first | (go_at_call 70; refine (value_any _ _ hd).mono ?_; rintro e w' ⟨rfl, rfl⟩) | (go_at_call 31; refine (unit_any _ _).mono ?_; rintro e w' ⟨rfl, rfl⟩) | (go_at_call 66; refine HSET.out.mono ?_; rintro e w' ⟨rfl, hto⟩))
      go_end0
      exact ⟨rfl, by rw [HL.out]; exact SideTo.kept HS.out⟩
    · have HL := Lib.hid (show l.learn ⟨1, data⟩ = l.set ⟨1, data⟩ by simp only [LinkD.learn, unfitB, hu]; rfl)
      go_enter Tryd.func58, Tryd.ntmps58
      go_wp2_with (first | (go_at_call 70; refine (value_any _ _ hd).mono ?_; rintro e w' ⟨rfl, rfl⟩) | (go_at_call 31; refine (unit_any _ _).mono ?_; rintro e w' ⟨rfl, rfl⟩) | (go_at_call 66; refine HSET.out.mono ?_; rintro e w' ⟨rfl, hto⟩))
      go_end0
      exact ⟨rfl, by rw [HL.out]; exact hto.after⟩

theorem kinds_any (w : World) : Calls Tryd.prog 62 #[] w fun e w' => e = .returned (.slice (some ⟨w.heap.size, 0, none⟩) 6 6) ∧ w' = w.alloc (.cells #[.int .i64 1, .int .i64 5, .int .i64 17, .int .i64 18, .int .i64 19, .int .i64 23] 3) := by
  go_enter Tryd.func62, Tryd.ntmps62
  go_wp2
  go_ret
  exact ⟨rfl, rfl⟩
def betterD (l : LinkD) (o : OptD) : OptD × Bool :=
  if o.kind = 1 then (⟨1, numB 1500 2⟩, !unitB (valB o.data)) else if o.kind = 17 then (⟨17, numB 1500 2⟩, !unitB (valB o.data))
  else if o.kind = 5 then (⟨5, numB (if 1 < 4294967295 - l.magic then 4294967295 - l.magic else 1) 4⟩, valB o.data == 0 || valB o.data == l.magic) else (o, false)

theorem better_other (l : LinkD) (o : OptD) (h1 : ¬ o.kind = 1) (h17 : ¬ o.kind = 17) (h5 : ¬ o.kind = 5) : betterD l o = (o, false) := by simp [betterD, *]

theorem i64_ofInt (a : Nat) (ha : a < 9223372036854775808) : (BitVec.ofInt 64 (a : Int)).toNat = a := by
  rw [BitVec.ofInt_natCast, BitVec.toNat_ofNat]; exact Nat.mod_eq_of_lt (by omega)
theorem xor_ones (n : Nat) (h : n ≤ 4294967295) : n ^^^ 4294967295 = 4294967295 - n := by
  have e : BitVec.ofNat 32 n ^^^ BitVec.allOnes 32 = ~~~ BitVec.ofNat 32 n := BitVec.xor_allOnes
  have e2 := congrArg BitVec.toNat e
  rw [BitVec.toNat_xor, BitVec.toNat_allOnes, BitVec.toNat_not, BitVec.toNat_ofNat, Nat.mod_eq_of_lt (by omega)] at e2
  simpa using e2
theorem xor_magic (m : Int) (h0 : 0 ≤ m) (h1 : m ≤ 4294967295) : bits .xor .i64 m 4294967295 = 4294967295 - m := by
  obtain ⟨n, rfl⟩ := Int.eq_ofNat_of_zero_le h0
  have hx := xor_ones n (by omega)
  have e : bits .xor .i64 (n : Int) ((4294967295 : Nat) : Int) = ((n ^^^ 4294967295 : Nat) : Int) := by
    show IntKind.i64.wrap ((BitVec.ofInt 64 (n : Int) ^^^ BitVec.ofInt 64 ((4294967295 : Nat) : Int)).toNat : Int) = _
    rw [BitVec.toNat_xor, i64_ofInt n (by omega), i64_ofInt _ (by omega), IntKind.wrap_i64, hx]
    omega
  have := e
  rw [hx] at this
  rw [show (4294967295 : Int) = ((4294967295 : Nat) : Int) from rfl, this]
  omega

theorem better_1 (b : Nat) (l : LinkD) (data : ByteArray) (w : World) (hs : Side w b l) (hd : data.size ≤ 140737488351232) :
    Calls Tryd.prog 55 #[.pointer (some ⟨b, 0, none⟩), .agg #[.int .i64 1, .string data]] w fun e w' =>
      e = .returned (.tuple #[.agg #[.int .i64 (betterD l ⟨1, data⟩).1.kind, .string (betterD l ⟨1, data⟩).1.data], .bool (betterD l ⟨1, data⟩).2]) ∧ Below w.heap.size w w' := by
  go_enter Tryd.func55, Tryd.ntmps55
  go_wp2_with (first | (go_at_call 70; refine (value_any _ _ hd).mono ?_; rintro e w' ⟨rfl, rfl⟩))
  have hb0 : Blk ((w.alloc (.cells #[.int .i64 1, .string data] 79)).alloc (.cells #[.int .i64 0, .string ⟨#[]⟩] 79)) (w.heap.size + 1) 79 #[.int .i64 0, .string ⟨#[]⟩] := by
    have := Blk.new (w.alloc (.cells #[.int .i64 1, .string data] 79)) 79 #[.int .i64 0, .string ⟨#[]⟩]
    simpa using this
  have n0 := Turned.cell (g := w.heap.size + 1) (w := ((w.alloc (.cells #[.int .i64 1, .string data] 79)).alloc (.cells #[.int .i64 0, .string ⟨#[]⟩] 79))) (a := ⟨w.heap.size, 0, none⟩) (u := .int .i64 1) (by simp) (by simp)
  refine wp_region_mix 7 (Turned.v (w := ((w.alloc (.cells #[.int .i64 1, .string data] 79)).alloc (.cells #[.int .i64 0, .string ⟨#[]⟩] 79))) (g := w.heap.size + 1))
    (TurnedAt _ _ 79 (fun t => if t = 0 then #[.int .i64 0, .string ⟨#[]⟩] else #[.int .i64 1, .string (numB 1500 2)])) turnedAt_pr turnedAt_below (by kernel_rfl) (by kernel_rfl) ⟨only_drew (World.grownBy.refl _ _), hb0⟩ ?_
  simp only [List.take_succ_cons, List.take_zero, List.drop_succ_cons, List.drop_zero]
  clear hb0
  repeat (refine wpHead_step (fun K hK => ?_); go_simp; first | (refine hK _ ?_; clear hK K) | (apply Exists.intro; refine ⟨fun _ => ?_, hK _ ?_⟩; (first | (go_at_call 64; exact number_any 1500 2 _ (by omega) (by omega) (by omega)) | (go_at_call 31; exact (unit_any _ _).mono (by rintro e w' ⟨rfl, rfl⟩; exact ⟨rfl, Below.refl _ _⟩))); clear hK K))
  refine wpHead_nil ?_
  refine wpTail_write rfl (fun w1 hw1 => ?_) ?_
  · obtain ⟨hg, hk⟩ := hw1
    have e0 : w1.cell? ⟨w.heap.size + 1, 0, none⟩ = some (.int .i64 0) := hk.cell 0
    have e1 : w1.cell? ⟨w.heap.size + 1, 1, none⟩ = some (.string ⟨#[]⟩) := hk.cell 1
    have f0 := hk.frozen
    have s0 := Blk.set_ (Blk.set_ hk 0 (.int .i64 1)) 1 (.string (numB 1500 2))
    have g0 := only_setCell (only_setCell hg (p := ⟨w.heap.size + 1, 0, none⟩) (.inl rfl) (.int .i64 1)) (p := ⟨w.heap.size + 1, 1, none⟩) (.inl rfl) (.string (numB 1500 2))
    clear hk hg
    refine ⟨(w1.setCell ⟨w.heap.size + 1, 0, none⟩ (.int .i64 1)).setCell ⟨w.heap.size + 1, 1, none⟩ (.string (numB 1500 2)), ?_, g0, s0⟩
    clear g0 s0 n0
    go_simp
  refine wpTail_quiet (fun K hK => ?_); go_simp; refine hK _ ?_; clear hK K
  refine wpTail_nil ?_
  intro w1 hw1
  have e0 : w1.cell? ⟨w.heap.size + 1, 0, none⟩ = some (.int .i64 1) := hw1.2.cell 0
  have e1 : w1.cell? ⟨w.heap.size + 1, 1, none⟩ = some (.string (numB 1500 2)) := hw1.2.cell 1
  have hg := Lib.hid (grown_from_alloc (grown_from_alloc hw1.1))
  clear hw1 n0
  go_wp2
  refine bodyPost_ret (v := .tuple #[.agg #[.int .i64 1, .string (numB 1500 2)], .bool (!unitB (valB data))]) (by simp [results, Tryd.results55, go_sem, e0, e1]) rfl ⟨?_, ?_⟩
  · rfl
  · exact ⟨hg.out.os, hg.out.tape, hg.out.output, hg.out.size, fun i hi => hg.out.block i hi (by simp; omega)⟩

theorem better_17 (b : Nat) (l : LinkD) (data : ByteArray) (w : World) (hs : Side w b l) (hd : data.size ≤ 140737488351232) :
    Calls Tryd.prog 55 #[.pointer (some ⟨b, 0, none⟩), .agg #[.int .i64 17, .string data]] w fun e w' =>
      e = .returned (.tuple #[.agg #[.int .i64 (betterD l ⟨17, data⟩).1.kind, .string (betterD l ⟨17, data⟩).1.data], .bool (betterD l ⟨17, data⟩).2]) ∧ Below w.heap.size w w' := by
  go_enter Tryd.func55, Tryd.ntmps55
  go_wp2_with (first | (go_at_call 70; refine (value_any _ _ hd).mono ?_; rintro e w' ⟨rfl, rfl⟩))
  have hb0 : Blk ((w.alloc (.cells #[.int .i64 17, .string data] 79)).alloc (.cells #[.int .i64 0, .string ⟨#[]⟩] 79)) (w.heap.size + 1) 79 #[.int .i64 0, .string ⟨#[]⟩] := by
    have := Blk.new (w.alloc (.cells #[.int .i64 17, .string data] 79)) 79 #[.int .i64 0, .string ⟨#[]⟩]
    simpa using this
  have n0 := Turned.cell (g := w.heap.size + 1) (w := ((w.alloc (.cells #[.int .i64 17, .string data] 79)).alloc (.cells #[.int .i64 0, .string ⟨#[]⟩] 79))) (a := ⟨w.heap.size, 0, none⟩) (u := .int .i64 17) (by simp) (by simp)
  refine wp_region_mix 7 (Turned.v (w := ((w.alloc (.cells #[.int .i64 17, .string data] 79)).alloc (.cells #[.int .i64 0, .string ⟨#[]⟩] 79))) (g := w.heap.size + 1))
    (TurnedAt _ _ 79 (fun t => if t = 0 then #[.int .i64 0, .string ⟨#[]⟩] else #[.int .i64 17, .string (numB 1500 2)])) turnedAt_pr turnedAt_below (by kernel_rfl) (by kernel_rfl) ⟨only_drew (World.grownBy.refl _ _), hb0⟩ ?_
  simp only [List.take_succ_cons, List.take_zero, List.drop_succ_cons, List.drop_zero]
  clear hb0
  repeat (refine wpHead_step (fun K hK => ?_); go_simp; first | (refine hK _ ?_; clear hK K) | (apply Exists.intro; refine ⟨fun _ => ?_, hK _ ?_⟩; (first | (go_at_call 64; exact number_any 1500 2 _ (by omega) (by omega) (by omega)) | (go_at_call 31; exact (unit_any _ _).mono (by rintro e w' ⟨rfl, rfl⟩; exact ⟨rfl, Below.refl _ _⟩))); clear hK K))
  refine wpHead_nil ?_
  refine wpTail_write rfl (fun w1 hw1 => ?_) ?_
  · obtain ⟨hg, hk⟩ := hw1
    have e0 : w1.cell? ⟨w.heap.size + 1, 0, none⟩ = some (.int .i64 0) := hk.cell 0
    have e1 : w1.cell? ⟨w.heap.size + 1, 1, none⟩ = some (.string ⟨#[]⟩) := hk.cell 1
    have f0 := hk.frozen
    have s0 := Blk.set_ (Blk.set_ hk 0 (.int .i64 17)) 1 (.string (numB 1500 2))
    have g0 := only_setCell (only_setCell hg (p := ⟨w.heap.size + 1, 0, none⟩) (.inl rfl) (.int .i64 17)) (p := ⟨w.heap.size + 1, 1, none⟩) (.inl rfl) (.string (numB 1500 2))
    clear hk hg
    refine ⟨(w1.setCell ⟨w.heap.size + 1, 0, none⟩ (.int .i64 17)).setCell ⟨w.heap.size + 1, 1, none⟩ (.string (numB 1500 2)), ?_, g0, s0⟩
    clear g0 s0 n0
    go_simp
  refine wpTail_quiet (fun K hK => ?_); go_simp; refine hK _ ?_; clear hK K
  refine wpTail_nil ?_
  intro w1 hw1
  have e0 : w1.cell? ⟨w.heap.size + 1, 0, none⟩ = some (.int .i64 17) := hw1.2.cell 0
  have e1 : w1.cell? ⟨w.heap.size + 1, 1, none⟩ = some (.string (numB 1500 2)) := hw1.2.cell 1
  have hg := Lib.hid (grown_from_alloc (grown_from_alloc hw1.1))
  clear hw1 n0
  go_wp2
  refine bodyPost_ret (v := .tuple #[.agg #[.int .i64 17, .string (numB 1500 2)], .bool (!unitB (valB data))]) (by simp [results, Tryd.results55, go_sem, e0, e1]) rfl ⟨?_, ?_⟩
  · rfl
  · exact ⟨hg.out.os, hg.out.tape, hg.out.output, hg.out.size, fun i hi => hg.out.block i hi (by simp; omega)⟩

set_option maxHeartbeats 1000000 in
theorem better_5f (b : Nat) (l : LinkD) (data : ByteArray) (w : World) (hs : Side w b l) (hd : data.size ≤ 140737488351232) (hm0 : 0 ≤ l.magic) (hm1 : l.magic ≤ 4294967295) (hz : (valB data == 0) = false) :
    Calls Tryd.prog 55 #[.pointer (some ⟨b, 0, none⟩), .agg #[.int .i64 5, .string data]] w fun e w' =>
      e = .returned (.tuple #[.agg #[.int .i64 (betterD l ⟨5, data⟩).1.kind, .string (betterD l ⟨5, data⟩).1.data], .bool (betterD l ⟨5, data⟩).2]) ∧ Below w.heap.size w w' := by
  go_enter Tryd.func55, Tryd.ntmps55
  go_wp2_with (first | (go_at_call 70; refine (value_any _ _ hd).mono ?_; rintro e w' ⟨rfl, rfl⟩))
  have hb0 : Blk ((w.alloc (.cells #[.int .i64 5, .string data] 79)).alloc (.cells #[.int .i64 0, .string ⟨#[]⟩] 79)) (w.heap.size + 1) 79 #[.int .i64 0, .string ⟨#[]⟩] := by
    have := Blk.new (w.alloc (.cells #[.int .i64 5, .string data] 79)) 79 #[.int .i64 0, .string ⟨#[]⟩]
    simpa using this
  have n0 := Turned.cell (g := w.heap.size + 1) (w := ((w.alloc (.cells #[.int .i64 5, .string data] 79)).alloc (.cells #[.int .i64 0, .string ⟨#[]⟩] 79))) (a := ⟨w.heap.size, 0, none⟩) (u := .int .i64 5) (by simp) (by simp)
  have hxo := xor_magic l.magic hm0 hm1
  have hlt := hs.lt
  have n1 := Turned.cell (g := w.heap.size + 1) (w := ((w.alloc (.cells #[.int .i64 5, .string data] 79)).alloc (.cells #[.int .i64 0, .string ⟨#[]⟩] 79))) (a := ⟨b, 1, none⟩) (u := .int .i64 l.magic) (by rw [World.cell?_alloc_lt _ _ _ (by simp; omega), World.cell?_alloc_lt _ _ _ (by simp; omega)]; exact hs.cells.c1) (by simp; omega)
  clear hs
  refine wp_region_mix 22 (Turned.v (w := ((w.alloc (.cells #[.int .i64 5, .string data] 79)).alloc (.cells #[.int .i64 0, .string ⟨#[]⟩] 79))) (g := w.heap.size + 1))
    (TurnedAt _ _ 79 (fun t => if t = 0 then #[.int .i64 0, .string ⟨#[]⟩] else #[.int .i64 5, .string (numB (if 1 < 4294967295 - l.magic then 4294967295 - l.magic else 1) 4)])) turnedAt_pr turnedAt_below (by kernel_rfl) (by kernel_rfl) ⟨only_drew (World.grownBy.refl _ _), hb0⟩ ?_
  simp only [List.take_succ_cons, List.take_zero, List.drop_succ_cons, List.drop_zero]
  clear hb0
  repeat (refine wpHead_step (fun K hK => ?_); go_simp; first | (refine hK _ ?_; clear hK K) | (apply Exists.intro; refine ⟨fun _ => ?_, hK _ ?_⟩; (go_at_call 64; exact number_any (if 1 < 4294967295 - l.magic then 4294967295 - l.magic else 1) 4 _ (by split <;> omega) (by split <;> omega) (by omega)); clear hK K))
  refine wpHead_nil ?_
  refine wpTail_write rfl (fun w1 hw1 => ?_) ?_
  · obtain ⟨hg, hk⟩ := hw1
    have e0 : w1.cell? ⟨w.heap.size + 1, 0, none⟩ = some (.int .i64 0) := hk.cell 0
    have e1 : w1.cell? ⟨w.heap.size + 1, 1, none⟩ = some (.string ⟨#[]⟩) := hk.cell 1
    have f0 := hk.frozen
    have s0 := Blk.set_ (Blk.set_ hk 0 (.int .i64 5)) 1 (.string (numB (if 1 < 4294967295 - l.magic then 4294967295 - l.magic else 1) 4))
    have g0 := only_setCell (only_setCell hg (p := ⟨w.heap.size + 1, 0, none⟩) (.inl rfl) (.int .i64 5)) (p := ⟨w.heap.size + 1, 1, none⟩) (.inl rfl) (.string (numB (if 1 < 4294967295 - l.magic then 4294967295 - l.magic else 1) 4))
    clear hk hg
    refine ⟨(w1.setCell ⟨w.heap.size + 1, 0, none⟩ (.int .i64 5)).setCell ⟨w.heap.size + 1, 1, none⟩ (.string (numB (if 1 < 4294967295 - l.magic then 4294967295 - l.magic else 1) 4)), ?_, g0, s0⟩
    clear g0 s0 n0 n1
    go_simp
  refine wpTail_quiet (fun K hK => ?_); go_simp; refine hK _ ?_; clear hK K
  refine wpTail_nil ?_
  intro w1 hw1
  have e0 : w1.cell? ⟨w.heap.size + 1, 0, none⟩ = some (.int .i64 5) := hw1.2.cell 0
  have e1 : w1.cell? ⟨w.heap.size + 1, 1, none⟩ = some (.string (numB (if 1 < 4294967295 - l.magic then 4294967295 - l.magic else 1) 4)) := hw1.2.cell 1
  have hg := Lib.hid (grown_from_alloc (grown_from_alloc hw1.1))
  clear hw1 n0 n1
  generalize hyy : (if 1 < 4294967295 - l.magic then 4294967295 - l.magic else 1) = y at e1 ⊢
  have HY := Lib.hid hyy
  clear hyy
  go_wp2
  refine bodyPost_ret (v := .tuple #[.agg #[.int .i64 5, .string (numB y 4)], .bool (valB data == l.magic)]) (by simp [results, Tryd.results55, go_sem, e0, e1]) rfl ⟨?_, ?_⟩
  · simp only [betterD]; rw [hz, HY.out]; rfl
  · exact ⟨hg.out.os, hg.out.tape, hg.out.output, hg.out.size, fun i hi => hg.out.block i hi (by simp; omega)⟩

set_option maxHeartbeats 1000000 in
theorem better_5t (b : Nat) (l : LinkD) (data : ByteArray) (w : World) (hs : Side w b l) (hd : data.size ≤ 140737488351232) (hm0 : 0 ≤ l.magic) (hm1 : l.magic ≤ 4294967295) (hz : (valB data == 0) = true) :
    Calls Tryd.prog 55 #[.pointer (some ⟨b, 0, none⟩), .agg #[.int .i64 5, .string data]] w fun e w' =>
      e = .returned (.tuple #[.agg #[.int .i64 (betterD l ⟨5, data⟩).1.kind, .string (betterD l ⟨5, data⟩).1.data], .bool (betterD l ⟨5, data⟩).2]) ∧ Below w.heap.size w w' := by
  go_enter Tryd.func55, Tryd.ntmps55
  go_wp2_with (first | (go_at_call 70; refine (value_any _ _ hd).mono ?_; rintro e w' ⟨rfl, rfl⟩))
  have hb0 : Blk ((w.alloc (.cells #[.int .i64 5, .string data] 79)).alloc (.cells #[.int .i64 0, .string ⟨#[]⟩] 79)) (w.heap.size + 1) 79 #[.int .i64 0, .string ⟨#[]⟩] := by
    have := Blk.new (w.alloc (.cells #[.int .i64 5, .string data] 79)) 79 #[.int .i64 0, .string ⟨#[]⟩]
    simpa using this
  have n0 := Turned.cell (g := w.heap.size + 1) (w := ((w.alloc (.cells #[.int .i64 5, .string data] 79)).alloc (.cells #[.int .i64 0, .string ⟨#[]⟩] 79))) (a := ⟨w.heap.size, 0, none⟩) (u := .int .i64 5) (by simp) (by simp)
  have hxo := xor_magic l.magic hm0 hm1
  have hlt := hs.lt
  have n1 := Turned.cell (g := w.heap.size + 1) (w := ((w.alloc (.cells #[.int .i64 5, .string data] 79)).alloc (.cells #[.int .i64 0, .string ⟨#[]⟩] 79))) (a := ⟨b, 1, none⟩) (u := .int .i64 l.magic) (by rw [World.cell?_alloc_lt _ _ _ (by simp; omega), World.cell?_alloc_lt _ _ _ (by simp; omega)]; exact hs.cells.c1) (by simp; omega)
  clear hs
  refine wp_region_mix 22 (Turned.v (w := ((w.alloc (.cells #[.int .i64 5, .string data] 79)).alloc (.cells #[.int .i64 0, .string ⟨#[]⟩] 79))) (g := w.heap.size + 1))
    (TurnedAt _ _ 79 (fun t => if t = 0 then #[.int .i64 0, .string ⟨#[]⟩] else #[.int .i64 5, .string (numB (if 1 < 4294967295 - l.magic then 4294967295 - l.magic else 1) 4)])) turnedAt_pr turnedAt_below (by kernel_rfl) (by kernel_rfl) ⟨only_drew (World.grownBy.refl _ _), hb0⟩ ?_
  simp only [List.take_succ_cons, List.take_zero, List.drop_succ_cons, List.drop_zero]
  clear hb0
  repeat (refine wpHead_step (fun K hK => ?_); go_simp; first | (refine hK _ ?_; clear hK K) | (apply Exists.intro; refine ⟨fun _ => ?_, hK _ ?_⟩; (go_at_call 64; exact number_any (if 1 < 4294967295 - l.magic then 4294967295 - l.magic else 1) 4 _ (by split <;> omega) (by split <;> omega) (by omega)); clear hK K))
  refine wpHead_nil ?_
  refine wpTail_write rfl (fun w1 hw1 => ?_) ?_
  · obtain ⟨hg, hk⟩ := hw1
    have e0 : w1.cell? ⟨w.heap.size + 1, 0, none⟩ = some (.int .i64 0) := hk.cell 0
    have e1 : w1.cell? ⟨w.heap.size + 1, 1, none⟩ = some (.string ⟨#[]⟩) := hk.cell 1
    have f0 := hk.frozen
    have s0 := Blk.set_ (Blk.set_ hk 0 (.int .i64 5)) 1 (.string (numB (if 1 < 4294967295 - l.magic then 4294967295 - l.magic else 1) 4))
    have g0 := only_setCell (only_setCell hg (p := ⟨w.heap.size + 1, 0, none⟩) (.inl rfl) (.int .i64 5)) (p := ⟨w.heap.size + 1, 1, none⟩) (.inl rfl) (.string (numB (if 1 < 4294967295 - l.magic then 4294967295 - l.magic else 1) 4))
    clear hk hg
    refine ⟨(w1.setCell ⟨w.heap.size + 1, 0, none⟩ (.int .i64 5)).setCell ⟨w.heap.size + 1, 1, none⟩ (.string (numB (if 1 < 4294967295 - l.magic then 4294967295 - l.magic else 1) 4)), ?_, g0, s0⟩
    clear g0 s0 n0 n1
    go_simp
  refine wpTail_quiet (fun K hK => ?_); go_simp; refine hK _ ?_; clear hK K
  refine wpTail_nil ?_
  intro w1 hw1
  have e0 : w1.cell? ⟨w.heap.size + 1, 0, none⟩ = some (.int .i64 5) := hw1.2.cell 0
  have e1 : w1.cell? ⟨w.heap.size + 1, 1, none⟩ = some (.string (numB (if 1 < 4294967295 - l.magic then 4294967295 - l.magic else 1) 4)) := hw1.2.cell 1
  have hg := Lib.hid (grown_from_alloc (grown_from_alloc hw1.1))
  clear hw1 n0 n1
  generalize hyy : (if 1 < 4294967295 - l.magic then 4294967295 - l.magic else 1) = y at e1 ⊢
  have HY := Lib.hid hyy
  clear hyy
  go_wp2
  refine bodyPost_ret (v := .tuple #[.agg #[.int .i64 5, .string (numB y 4)], .bool (true)]) (by simp [results, Tryd.results55, go_sem, e0, e1]) rfl ⟨?_, ?_⟩
  · simp only [betterD]; rw [hz, HY.out]; rfl
  · exact ⟨hg.out.os, hg.out.tape, hg.out.output, hg.out.size, fun i hi => hg.out.block i hi (by simp; omega)⟩

theorem better_any (b : Nat) (l : LinkD) (o : OptD) (w : World) (hs : Side w b l) (hd : o.data.size ≤ 140737488351232) (hm0 : 0 ≤ l.magic) (hm1 : l.magic ≤ 4294967295) :
    Calls Tryd.prog 55 #[.pointer (some ⟨b, 0, none⟩), .agg #[.int .i64 o.kind, .string o.data]] w fun e w' =>
      e = .returned (.tuple #[.agg #[.int .i64 (betterD l o).1.kind, .string (betterD l o).1.data], .bool (betterD l o).2]) ∧ Below w.heap.size w w' := by
  obtain ⟨kind, data⟩ := o
  by_cases h1 : kind = 1
  · subst h1; exact better_1 b l data w hs hd
  by_cases h17 : kind = 17
  · subst h17; exact better_17 b l data w hs hd
  by_cases h5 : kind = 5
  · subst h5
    rcases hz : (valB data == 0) with _ | _
    · exact better_5f b l data w hs hd hm0 hm1 hz
    · exact better_5t b l data w hs hd hm0 hm1 hz
  have HL := Lib.hid (better_other l ⟨kind, data⟩ h1 h17 h5)
  go_enter Tryd.func55, Tryd.ntmps55
  go_wp2_with (first | (go_at_call 70; refine (value_any _ _ hd).mono ?_; rintro e w' ⟨rfl, rfl⟩))
  refine bodyPost_ret (v := .tuple #[.agg #[.int .i64 kind, .string data], .bool false]) (by simp [results, Tryd.results55, go_sem]) rfl ⟨by rw [HL.out], ?_⟩
  exact (((Below.refl _ _).alloc (Nat.le_refl _) _).alloc (by simp) _)
end Go.Proofs.YthlfghheciamcaaDoor
