/-
  Contracts: slices.ContainsFunc at opts.Put's test; opts.Put.
  Conditions: as each states.
-/
import Derived.Test.YthlfghheciamcaaDoorG1
namespace Go.Proofs.YthlfghheciamcaaDoor
open Go.RowKit
set_option linter.unusedVariables false

def kindBad (o : OptD) : Bool := decide (o.kind < 0) || decide (255 < o.kind)
theorem puttest_any (o : OptD) (w : World) : Calls Tryd.prog 49 #[.agg #[.int .i64 o.kind, .string o.data]] w fun e w' => e = .returned (.bool (kindBad o)) ∧ Below w.heap.size w w' := by
  by_cases h : o.kind < 0
  · have hk : kindBad o = true := by simp [kindBad, h]
    have HK := Lib.hid hk
    clear hk
    go_enter Tryd.func49, Tryd.ntmps49
    go_wp2
    go_ret
    exact ⟨by rw [HK.out]; rfl, (Below.refl _ _).alloc (Nat.le_refl _) _⟩
  · have hd : decide (o.kind < 0) = false := by simpa using h
    have hk : kindBad o = decide (255 < o.kind) := by simp [kindBad, h]
    have HK := Lib.hid hk
    clear hk
    go_enter Tryd.func49, Tryd.ntmps49
    go_wp2
    go_ret
    exact ⟨by rw [HK.out]; rfl, (Below.refl _ _).alloc (Nat.le_refl _) _⟩

def badFrom : List OptD → Int → Int
  | [], _ => -1
  | o :: os, i => if kindBad o then i else badFrom os (i + 1)
theorem badFrom_hit (o : OptD) (os : List OptD) (i : Int) (h : kindBad o = true) : badFrom (o :: os) i = i := by simp only [badFrom]; rw [if_pos h]
theorem badFrom_miss (o : OptD) (os : List OptD) (i : Int) (h : kindBad o = false) : badFrom (o :: os) i = badFrom os (i + 1) := by simp only [badFrom]; rw [if_neg (by rw [h]; decide)]
theorem badFrom_any : ∀ (os : List OptD) (i : Int), 0 ≤ i → (decide (0 ≤ badFrom os i)) = os.any kindBad
  | [], i, h => rfl
  | o :: os, i, h => by
    have ih := badFrom_any os (i + 1) (by omega)
    cases hk : kindBad o with
    | true => rw [badFrom_hit o os i hk]; simp [hk, h]
    | false => rw [badFrom_miss o os i hk, ih]; simp [hk]

theorem indexBad_any (os : List OptD) (A : Option Addr) (n c : Nat) (w : World) (hr : Reads w w.heap.size 2 A n (optCells os)) (hn : os.length = n) (hn2 : n ≤ 9223372036854775806) :
    Calls Tryd.prog 67 #[.slice A n c, .func (.func 49) #[] #[]] w fun e w' => e = .returned (.int .i64 (badFrom os 0)) ∧ Below w.heap.size w w' := by
  go_enter Tryd.func67, Tryd.ntmps67
  go_wp2
  go_loopw [4, 5, 8] (fun r i j wr => ∃ m : Nat, m ≤ n ∧ j = .int .i64 m ∧ r = .int .i64 0 ∧ badFrom os 0 = badFrom (os.drop m) m ∧ Below w.heap.size w wr)
    (fun _ _ j _ => n - (intOf j).toNat)
  case atStart => exact ⟨0, Nat.zero_le _, rfl, rfl, rfl, Below.refl _ _⟩
  case round =>
    obtain ⟨m, hm, rfl, rfl, hf, hb⟩ := hrel
    have HF := Lib.hid hf
    clear hf
    by_cases hlt : m < n
    · have hlt' : m < os.length := by omega
      obtain ⟨ad, rfl, hbl, hk0, hk1⟩ := opt_at hr hb m hlt' hn
      have hd : badFrom (os.drop m) m = if kindBad (os[m]'hlt') then (m : Int) else badFrom (os.drop (m + 1)) ((m + 1 : Nat) : Int) := by
        rw [List.drop_eq_getElem_cons hlt']; rfl
      have HD := Lib.hid hd
      clear hd
      generalize os[m]'hlt' = o at hk0 hk1 HD
      go_wp2_with (go_at_call 49; refine (puttest_any o _).mono ?_; rintro e w' ⟨rfl, hb'⟩)
      · have hkk : kindBad o = true := by assumption
        go_ret
        refine ⟨ret_num ?_, below_trans' hb hb.size hb'⟩
        rw [HF.out, HD.out, if_pos hkk]
      · have hkk : kindBad o = false := by assumption
        go_roundw
        case rel => exact ⟨m + 1, by omega, by go_num, rfl, by rw [HF.out, HD.out, if_neg (by rw [hkk]; decide)], below_trans' hb hb.size hb'⟩
        case measure => simp [intOf]; omega
    · obtain rfl : m = n := by omega
      go_wp2
      go_ret
      refine ⟨ret_num ?_, hb⟩
      rw [HF.out, List.drop_of_length_le (by omega)]; rfl

theorem contains_any (os : List OptD) (A : Option Addr) (n c : Nat) (w : World) (hr : Reads w w.heap.size 2 A n (optCells os)) (hn : os.length = n) (hn2 : n ≤ 9223372036854775806) :
    Calls Tryd.prog 48 #[.slice A n c, .func (.func 49) #[] #[]] w fun e w' => e = .returned (.bool (os.any kindBad)) ∧ Below w.heap.size w w' := by
  have hi := Lib.hid (indexBad_any os A n c w hr hn hn2)
  have HA := Lib.hid (badFrom_any os 0 (Int.le_refl 0))
  clear hr
  go_enter Tryd.func48, Tryd.ntmps48
  go_wp2_with (go_at_call 67; refine hi.out.mono ?_; rintro e w' ⟨rfl, hb⟩)
  go_ret
  exact ⟨ret_bool HA.out, hb⟩

/-! ### opts.Put -/
def byteN (n : Nat) : UInt8 := UInt8.ofNat n
def optBytes (o : OptD) : List UInt8 := [byteN o.kind.toNat, byteN (2 + o.data.size)] ++ o.data.data.toList
def putFits (acc : List UInt8) (o : OptD) : Bool := decide (o.data.size ≤ 253) && decide (acc.length + 2 + o.data.size ≤ 2048)
def putGo (acc : List UInt8) : List OptD → Option (List UInt8)
  | [] => some acc
  | o :: os => if putFits acc o then putGo (acc ++ optBytes o) os else none
def optsPut (os : List OptD) : List UInt8 × Int :=
  if os.any kindBad then ([], 400) else match putGo [] os with
    | some l => (l, 0)
    | none => ([], 401)
theorem putGo_step (acc : List UInt8) (os : List OptD) (m : Nat) (h : m < os.length) : putGo acc (os.drop m) = if putFits acc (os[m]'h) then putGo (acc ++ optBytes (os[m]'h)) (os.drop (m + 1)) else none := by
  rw [List.drop_eq_getElem_cons h]; rfl
theorem any_at {os : List OptD} (h : os.any kindBad = false) (m : Nat) (hm : m < os.length) : 0 ≤ (os[m]'hm).kind ∧ (os[m]'hm).kind ≤ 255 := by
  have := List.any_eq_false.1 h _ (List.getElem_mem hm)
  simp only [kindBad, Bool.or_eq_true, decide_eq_true_eq] at this
  omega
theorem optBytes_length (o : OptD) : (optBytes o).length = 2 + o.data.size := by
  simp only [optBytes, List.length_append, List.length_cons, List.length_nil]
  rfl
theorem builder_below {T e : TypeId} {B b : Nat} {bs : List Value} {w w' : World} (h : Lib.IsBuilder T e B b bs w) (hb : Below w.heap.size w w') : Lib.IsBuilder T e B b bs w' := by
  have key : ∀ p, Lib.BuilderAt T e B b p bs w → Lib.BuilderAt T e B b p bs w' := fun p h => by
    have hlt := h.lt
    obtain ⟨hB, v, hk, ho, hne⟩ := h
    exact ⟨hB, v, (hb.block b hlt).trans hk, own_below ho hb, hne⟩
  exact h.imp (key _) (key _)

theorem len_any (B b : Nat) (acc : List UInt8) (w : World) (h : Lib.IsBuilder 95 5 B b (Lib.byteCells acc) w) :
    Calls Tryd.prog 50 #[.pointer (some ⟨b, 0, none⟩)] w fun e w' => e = .returned (.int .i64 acc.length) ∧ w = w' :=
  (Tryd.Builder_Len B b (Lib.byteCells acc) w h).mono fun e w' ⟨he, hw⟩ => ⟨by rw [he, Lib.byteCells_length], hw.symm⟩

theorem byte_int (k : Int) (h0 : 0 ≤ k) (h1 : k ≤ 255) : ((UInt8.ofNat k.toNat).toNat : Int) = k := by
  rw [UInt8.toNat_ofNat']
  omega
theorem conv_two (k l : Int) (h0 : 0 ≤ k) (h1 : k ≤ 255) (h2 : 0 ≤ l) (h3 : l ≤ 255) (w : World) :
    (convert 77 9 (.slice (some ⟨w.heap.size, 0, none⟩) 2 2)).run Tryd.prog (w.alloc (.cells #[.int .u8 k, .int .u8 l] 5)) = .ok (.string ⟨#[byteN k.toNat, byteN l.toNat]⟩) (w.alloc (.cells #[.int .u8 k, .int .u8 l] 5)) := by
  refine run_convert_bytes_back _ _ _ 5 _ 2 [byteN k.toNat, byteN l.toNat] Tryd.underlying77 Tryd.underlying5 Tryd.underlying9 fun j hj => ?_
  have hb := Blk.cell (Blk.new w 5 #[.int .u8 k, .int .u8 l]) j
  have ha : (⟨w.heap.size, 0, none⟩ : Addr).add j = ⟨w.heap.size, j, none⟩ := by unfold Addr.add; split <;> simp_all
  rw [ha, hb]
  match j, hj with
  | 0, _ => simp [byteN]; omega
  | 1, _ => simp [byteN]; omega

set_option maxRecDepth 100000 in
set_option maxHeartbeats 2000000 in
theorem optsPut_any (os : List OptD) (A : Option Addr) (n c : Nat) (w : World) (hr : Reads w w.heap.size 2 A n (optCells os)) (hn : os.length = n) (hn2 : n ≤ 9223372036854775806)
    (hd : ∀ o ∈ os, o.data.size ≤ 140737488351232) :
    Calls Tryd.prog 35 #[.slice A n c] w fun e w' => e = .returned (.tuple #[.string ⟨(optsPut os).1.toArray⟩, .int .i64 (optsPut os).2]) ∧ Below w.heap.size w w' := by
  have HC := Lib.hid (contains_any os A n c w hr hn hn2)
  have HR := Lib.hid hr
  have HD := Lib.hid hd
  clear hr hd
  rcases hk : os.any kindBad with _ | _
  · have HK := Lib.hid hk
    clear hk
    go_enter Tryd.func35, Tryd.ntmps35
    go_wp2_with (go_at_call 48; refine HC.out.mono ?_; rintro e w1 ⟨rfl, hb1⟩; rw [HK.out]; have HB1 := Lib.hid hb1; clear hb1)
    have hbu := Lib.fresh_isBuilder 95 5 w1
    have hbe := HB1.out.alloc HB1.out.size (.cells #[.pointer none, .slice none 0 0] 95)
    have hz1 := HB1.out.size
    have HBU := Lib.hid hbu
    have HBE := Lib.hid hbe
    clear hbu hbe HB1 HC
    generalize hB : w1.heap.size = B at *
    go_loopw [6, 11] (fun _ i wr => ∃ (m : Nat) (acc : List UInt8), m ≤ n ∧ i = .int .i64 m ∧ acc.length ≤ 2048 ∧ putGo [] os = putGo acc (os.drop m) ∧ Lib.IsBuilder 95 5 B B (Lib.byteCells acc) wr ∧ B < wr.heap.size ∧ Below w.heap.size w wr)
      (fun _ i _ => n - (intOf i).toNat)
    case atStart => exact ⟨0, [], Nat.zero_le _, rfl, by simp, rfl, HBU.out, by simp [hB], HBE.out⟩
    case round =>
      obtain ⟨m, acc, hm, rfl, hacc, hg, hbu, hzr, hbe⟩ := hrel
      have HG := Lib.hid hg
      have HBU2 := Lib.hid hbu
      have HBE2 := Lib.hid hbe
      have hzw := hbe.size
      clear hg hbu hbe HBU HBE
      by_cases hlt : m < n
      · obtain ⟨ad, hA, hbl, hc0, hc1⟩ := opt_at HR.out HBE2.out m (by omega) hn
        subst hA
        have hod := HD.out (os[m]'(by omega)) (List.getElem_mem _)
        have HS := Lib.hid (putGo_step acc os m (by omega))
        have hkd := any_at HK.out m (by omega)
        generalize os[m]'(by omega) = o at hc0 hc1 hod HS hkd
        have n1 := Near.cell (w := wr.alloc (.cells #[.int .i64 o.kind, .string o.data] 79)) (a := ⟨wr.heap.size, 1, none⟩) (u := .string o.data) (by simp)
        have hbx : ∀ x : Near (wr.alloc (.cells #[.int .i64 o.kind, .string o.data] 79)), Lib.IsBuilder 95 5 B B (Lib.byteCells acc) x.v := fun x => builder_below (builder_below HBU2.out ((Below.refl _ _).alloc (Nat.le_refl _) _)) x.below
        have HBX := Lib.hid hbx
        have HXB := Lib.hid (fun x : Near (wr.alloc (.cells #[.int .i64 o.kind, .string o.data] 79)) => below_trans' (HBE2.out.alloc hzw _) (by simp; omega) x.below)
        have HXK := Lib.hid (fun x : Near (wr.alloc (.cells #[.int .i64 o.kind, .string o.data] 79)) => Near.blk (Blk.new wr 79 #[.int .i64 o.kind, .string o.data]) x)
        have hbl0 := Lib.byteCells_length acc
        have HBL := Lib.hid hbl0
        clear hbx hbl0
        by_cases h253 : 253 < o.data.size
        · have hd1 : decide (253 < (o.data.size : Int)) = true := by simp; omega
          have HN := Lib.hid (show optsPut os = ([], 401) by
            unfold optsPut; rw [HK.out, HG.out, HS.out]; simp [putFits, show ¬ o.data.size ≤ 253 by omega])
          go_wp2_with fail
          refine wp_region_near (by kernel_rfl) (by kernel_rfl) ?_
          repeat (go_big_quiet_step (fail))
          refine wpQuiet_nil ?_
          intro x
          clear n1
          go_wp2
          go_ret2
          exact ⟨by rw [HN.out]; rfl, HXB.out x⟩
        · have hd1 : decide (253 < (o.data.size : Int)) = false := by simp; omega
          rcases htot : decide (2048 < (acc.length : Int) + 2 + o.data.size) with _ | _
          · go_wp2_with fail
            refine wp_region_near (by kernel_rfl) (by kernel_rfl) ?_
            repeat (go_big_quiet_step ((go_at_call 50; exact near_of_same (len_any B B acc _ (HBX.out _)))))
            refine wpQuiet_nil ?_
            intro x
            have hx := HXK.out x
            have x0 : x.v.cell? ⟨wr.heap.size, 0, none⟩ = some (.int .i64 o.kind) := hx.cell 0
            have x1 : x.v.cell? ⟨wr.heap.size, 1, none⟩ = some (.string o.data) := hx.cell 1
            have hxl : wr.heap.size < x.v.heap.size := hx.lt
            clear hx n1
            go_wp2_with fail
            rw [conv_two _ _ (by omega) (by omega) (by omega) (by omega)]
            simp only [Result.andThen]
            rw [Oper.upon_value]
            go_wp2_with fail
            have hb2 := builder_below (HBX.out x) ((Below.refl x.v.heap.size x.v).alloc (Nat.le_refl _) (.cells #[.int .u8 o.kind, .int .u8 (2 + o.data.size)] 5))
            have hsz : (⟨#[byteN o.kind.toNat, byteN (2 + o.data.size)]⟩ ++ o.data : ByteArray).size = 2 + o.data.size := by rw [ByteArray.size_append]; rfl
            have htot' : acc.length + 2 + o.data.size ≤ 2048 := by have := of_decide_eq_false htot; omega
            refine (writeString_any B B (Lib.byteCells acc) _ _ hb2 (by rw [HBL.out, hsz]; omega) (by simp; omega)).mono ?_
            rintro e w3 ⟨rfl, hbu3, hb3⟩
            have hbu4 : Lib.IsBuilder 95 5 B B (Lib.byteCells (acc ++ optBytes o)) w3 := by
              rw [Lib.byteCells_append]
              have e : Lib.byteCells (optBytes o) = Lib.strCells (⟨#[byteN o.kind.toNat, byteN (2 + o.data.size)]⟩ ++ o.data) := by
                simp [Lib.byteCells, Lib.strCells, optBytes, ByteArray.data_append]
              rw [e]; exact hbu3
            have HBU4 := Lib.hid hbu4
            have HB4 := Lib.hid ((HXB.out x).alloc (HXB.out x).size (.cells #[.int .u8 o.kind, .int .u8 (2 + o.data.size)] 5))
            have HB5 := Lib.hid (HB4.out.trans (hb3.mono (show w.heap.size ≤ B by omega)))
            have hz5 := hb3.size
            simp only [World.size_alloc] at hz5
            have HG5 := Lib.hid (show putGo [] os = putGo (acc ++ optBytes o) (os.drop (m + 1)) by
              rw [HG.out, HS.out, if_pos]; simp only [putFits, Bool.and_eq_true, decide_eq_true_eq]; omega)
            have hl5 : (acc ++ optBytes o).length ≤ 2048 := by rw [List.length_append, optBytes_length]; omega
            clear hbu3 hbu4 hb3 hb2 hsz x0 x1
            go_wp2_with fail
            go_roundw
            case rel => exact ⟨m + 1, _, by omega, by go_num, hl5, HG5.out, HBU4.out, by omega, HB5.out⟩
            case measure => simp [intOf]; omega
          · have HN := Lib.hid (show optsPut os = ([], 401) by
              unfold optsPut; rw [HK.out, HG.out, HS.out]
              simp only [decide_eq_true_eq] at htot
              simp [putFits, show ¬ acc.length + 2 + o.data.size ≤ 2048 by omega])
            go_wp2_with fail
            refine wp_region_near (by kernel_rfl) (by kernel_rfl) ?_
            repeat (go_big_quiet_step ((go_at_call 50; exact near_of_same (len_any B B acc _ (HBX.out _)))))
            refine wpQuiet_nil ?_
            intro x
            clear n1
            go_wp2
            go_ret2
            exact ⟨by rw [HN.out]; rfl, HXB.out x⟩
      · obtain rfl : m = n := by omega
        have HN := Lib.hid (show optsPut os = (acc, 0) by unfold optsPut; rw [HK.out, HG.out, List.drop_of_length_le (by omega)]; rfl)
        go_wp2_with (go_at_call 52; refine (Tryd.Builder_String_any B B acc _ HBU2.out (by omega)).mono ?_; rintro e w2 ⟨rfl, hb2⟩)
        go_ret2
        exact ⟨by rw [HN.out]; rfl, HBE2.out.trans (hb2.mono (by omega))⟩
  · have HN := Lib.hid (show optsPut os = ([], 400) by unfold optsPut; rw [hk]; rfl)
    have HK := Lib.hid hk
    clear hk
    go_enter Tryd.func35, Tryd.ntmps35
    go_wp2_with (go_at_call 48; refine HC.out.mono ?_; rintro e w1 ⟨rfl, hb1⟩; rw [HK.out])
    go_ret2
    exact ⟨by rw [HN.out]; rfl, hb1⟩
end Go.Proofs.YthlfghheciamcaaDoor
