/-
  PolicyNaks: what was naked is taken, when it is asked for as told: the law answers true at every three numbers.
  Conditions: none.
-/
import Derived.Test.YthlfghheciamcaaM2
import Derived.Test.YthlfghheciamcaaT5
import Derived.BigQuiet
namespace Go.Proofs.Ythlfghheciamcaa
open Go.RowKit Go.Joins Go.ChangeShapes Go.WideShapes Go.Deep
open Go.ChangeMaps (open_string shut_string)
set_option linter.unusedVariables false

theorem and_range (x : Int) (m : Nat) (hm : m < 9223372036854775808) : 0 ≤ bits .and .i64 x (m : Int) ∧ bits .and .i64 x (m : Int) ≤ m := by
  have e : bits .and .i64 x (m : Int) = IntKind.i64.wrap (((BitVec.ofInt 64 x &&& BitVec.ofInt 64 (m : Int)).toNat : Nat) : Int) := rfl
  rw [e, BitVec.toNat_and, i64_ofInt m hm]
  have := Nat.and_le_right (n := (BitVec.ofInt 64 x).toNat) (m := m)
  rw [IntKind.wrap_i64]
  generalize (BitVec.ofInt 64 x).toNat &&& m = k at *
  omega
theorem and_255 (x : Int) (h0 : 0 ≤ x) (h : x < 9223372036854775808) : bits .and .i64 x 255 = x % 256 := by
  obtain ⟨n, rfl⟩ := Int.eq_ofNat_of_zero_le h0
  have e : bits .and .i64 (n : Int) 255 = IntKind.i64.wrap (((BitVec.ofInt 64 (n : Int) &&& BitVec.ofInt 64 ((255 : Nat) : Int)).toNat : Nat) : Int) := rfl
  rw [e, BitVec.toNat_and, i64_ofInt n (by omega), i64_ofInt 255 (by omega), IntKind.wrap_i64]
  have := Nat.and_two_pow_sub_one_eq_mod n 8
  rw [show (2 : Nat) ^ 8 - 1 = 255 by decide] at this
  rw [this]
  omega
theorem conv_row (w : World) (g k : Nat) (hg : g = w.heap.size) (bs : List UInt8) (hk : bs.length = k) (hk2 : k ≤ 9) (cs : Array Value) (hc : cs = (byteVals bs).toArray) :
    (convert 43 9 (.slice (some ⟨g, 0, none⟩) k k)).run Try.prog (w.alloc (.cells cs 5)) = .ok (.string ⟨bs.toArray⟩) (w.alloc (.cells cs 5)) := by
  subst hg hc hk
  refine run_string_row (P := Try.prog) (base := w.heap.size) (n := bs.length) Try.underlying43 Try.underlying5 Try.underlying9 ⟨by simp [byteVals_length], .inr ⟨w.heap.size, bs.length, (byteVals bs).toArray, rfl, Nat.le_refl _, heap_alloc_new w _, Nat.le_refl _, by simp only [maxLen]; omega, by simp [byteVals_length], ?_⟩⟩
  rw [Nat.mul_one, List.take_of_length_le (by simp [byteVals_length])]
theorem byte_1 (x : Int) : ((byteAt x 1).toNat : Int) = x / 256 % 256 := byteAt_toNat x 1
theorem byte_0 (x : Int) : ((byteAt x 0).toNat : Int) = x % 256 := by rw [byteAt_toNat]; unfold byteI; simp
theorem byte_2 (x : Int) : ((byteAt x 2).toNat : Int) = x / 65536 % 256 := byteAt_toNat x 2

theorem reads_blk {w : World} {g : Nat} {T : TypeId} {cs : Array Value} {os : List OptD} (h : Blk w g T cs) (e : cs.toList = optCells os) : Reads w w.heap.size 2 (some ⟨g, 0, none⟩) os.length (optCells os) := by
  refine ⟨optCells_length os, fun _ => ⟨_, rfl, h.lt, fun j u hu => ?_⟩⟩
  have e2 : (⟨g, 0, none⟩ : Addr).add j = ⟨g, j, none⟩ := by unfold Addr.add; split <;> simp_all
  rw [e2, h.cell j]
  rw [← e] at hu
  simpa using hu
def cells3 (a b c : OptD) : Array Value := #[.int .i64 a.kind, .string a.data, .int .i64 b.kind, .string b.data, .int .i64 c.kind, .string c.data]
theorem val_M (M : Int) (h0 : 1 ≤ M) (h1 : M ≤ 65536) : valB ⟨#[0, byteAt M 2, byteAt (bits .and .i64 (M / 256) 255) 0, byteAt (bits .and .i64 M 255) 0]⟩ = M := by
  rw [valB_four, and_255 _ (by omega) (by omega), and_255 _ (by omega) (by omega)]
  have e2 := byte_2 M
  have e1 := byte_0 (M / 256 % 256)
  have e0 := byte_0 (M % 256)
  show (((((0 * 256 + (byteAt M 2).toNat) * 256 + (byteAt (M / 256 % 256) 0).toNat) * 256 + (byteAt (M % 256) 0).toNat : Nat)) : Int) = M
  omega

set_option maxRecDepth 100000 in
set_option maxHeartbeats 4000000 in
theorem walk_policyNaks (magic unit_ mrru : Int) (w : World) :
    Calls Try.prog 7 #[.int .i64 magic, .int .i64 unit_, .int .i64 mrru] w fun e w' => e = .returned (.bool true) ∧ Below w.heap.size w w' := by
  go_enter Try.func7, Try.ntmps7
  go_wp2_with fail
  refine (awake_any _).mono ?_
  rintro e w1 ⟨rfl, hk1⟩
  have hw1 := Lib.hid hk1
  clear hk1
  have hU := and_range unit_ 65535 (by decide)
  have hV := and_range mrru 65535 (by decide)
  have hM : 1 ≤ wrap64 (1 + bits .and .i64 magic 65535) ∧ wrap64 (1 + bits .and .i64 magic 65535) ≤ 65536 := by
    obtain ⟨q1, q2⟩ := and_range magic 65535 (by decide)
    have q3 : 0 ≤ bits .and .i64 magic 65535 := q1
    have q4 : bits .and .i64 magic 65535 ≤ 65535 := q2
    generalize bits .and .i64 magic 65535 = k at *
    unfold wrap64
    omega
  go_wp2_with fail
  generalize wrap64 (1 + bits .and .i64 magic 65535) = M at *
  generalize bits .and .i64 unit_ 65535 = U at *
  generalize bits .and .i64 mrru 65535 = V at *
  have hc1 := conv_row (w1.alloc (.cells (ownM M).cells 23)) (w1.heap.size + 1) 2 (by simp) [byteAt U 1, byteAt (bits .and .i64 U 255) 0] rfl (by omega) #[.int .u8 (U / 256 % 256), .int .u8 (bits .and .i64 U 255 % 256)] (by simp only [byteVals, List.map_cons, List.map_nil, byte_1, byte_0])
  simp only [LinkD.cells, ownM] at hc1
  rw [hc1]
  clear hc1
  go_wp2_with fail
  have hx : (⟨#[byteAt U 1, byteAt (bits .and .i64 U 255) 0]⟩ : ByteArray).size = 2 := rfl
  generalize (⟨#[byteAt U 1, byteAt (bits .and .i64 U 255) 0]⟩ : ByteArray) = X at *
  generalize hD1 : (#[.int .u8 (U / 256 % 256), .int .u8 (bits .and .i64 U 255 % 256)] : Array Value) = D1 at *
  have hc1 := conv_row ((w1.alloc (.cells (ownM M).cells 23)).alloc (.cells D1 5)) (w1.heap.size + 1 + 1) 4 (by simp) [0, byteAt M 2, byteAt (bits .and .i64 (M / 256) 255) 0, byteAt (bits .and .i64 M 255) 0] rfl (by omega) #[.int .u8 0, .int .u8 (M / 65536), .int .u8 (bits .and .i64 (M / 256) 255 % 256), .int .u8 (bits .and .i64 M 255 % 256)] (by
    have : M / 65536 % 256 = M / 65536 := by omega
    simp only [byteVals, List.map_cons, List.map_nil, byte_2, byte_0, this]; rfl)
  simp only [LinkD.cells, ownM] at hc1
  rw [hc1]
  clear hc1
  have hy : (⟨#[0, byteAt M 2, byteAt (bits .and .i64 (M / 256) 255) 0, byteAt (bits .and .i64 M 255) 0]⟩ : ByteArray).size = 4 := rfl
  have hv := val_M M hM.1 hM.2
  generalize (⟨#[0, byteAt M 2, byteAt (bits .and .i64 (M / 256) 255) 0, byteAt (bits .and .i64 M 255) 0]⟩ : ByteArray) = Y at *
  generalize hD2 : (#[.int .u8 0, .int .u8 (M / 65536), .int .u8 (bits .and .i64 (M / 256) 255 % 256), .int .u8 (bits .and .i64 M 255 % 256)] : Array Value) = D2 at *
  go_wp2_with fail
  have hc1 := conv_row (((w1.alloc (.cells (ownM M).cells 23)).alloc (.cells D1 5)).alloc (.cells D2 5)) (w1.heap.size + 1 + 1 + 1) 2 (by simp) [byteAt V 1, byteAt (bits .and .i64 V 255) 0] rfl (by omega) #[.int .u8 (V / 256), .int .u8 (bits .and .i64 V 255 % 256)] (by
    have : V / 256 % 256 = V / 256 := by omega
    simp only [byteVals, List.map_cons, List.map_nil, byte_1, byte_0, this])
  simp only [LinkD.cells, ownM] at hc1
  rw [hc1]
  clear hc1
  have hz : (⟨#[byteAt V 1, byteAt (bits .and .i64 V 255) 0]⟩ : ByteArray).size = 2 := rfl
  generalize (⟨#[byteAt V 1, byteAt (bits .and .i64 V 255) 0]⟩ : ByteArray) = Z at *
  generalize hD3 : (#[.int .u8 (V / 256), .int .u8 (bits .and .i64 V 255 % 256)] : Array Value) = D3 at *
  clear hD1 hD2 hD3
  go_wp2_with fail
  have HW := Lib.hid (((((hw1.out.alloc hw1.out.size (.cells (ownM M).cells 23)).alloc (by have := hw1.out.size; simp; omega) (.cells D1 5)).alloc (by have := hw1.out.size; simp; omega) (.cells D2 5)).alloc (by have := hw1.out.size; simp; omega) (.cells D3 5)).alloc (by have := hw1.out.size; simp; omega) (.cells #[.int .i64 1, .string X, .int .i64 5, .string Y, .int .i64 17, .string Z] 36))
  have hl := Lib.hid (((((LinkAt.new w1 (ownM M)).alloc (.cells D1 5)).alloc (.cells D2 5)).alloc (.cells D3 5)).alloc (.cells #[.int .i64 1, .string X, .int .i64 5, .string Y, .int .i64 17, .string Z] 36))
  have hob := Blk.new ((((w1.alloc (.cells (ownM M).cells 23)).alloc (.cells D1 5)).alloc (.cells D2 5)).alloc (.cells D3 5)) 36 #[.int .i64 1, .string X, .int .i64 5, .string Y, .int .i64 17, .string Z]
  simp only [World.size_alloc] at hob
  have hbl : w1.heap.size < w1.heap.size + 1 + 1 + 1 + 1 := by omega
  have hz1 := hw1.out.size
  generalize w1.heap.size + 1 + 1 + 1 + 1 = b at *
  have HOB := Lib.hid hob
  have hj := judge_any (ownM M) (some ⟨b, 0, none⟩) 3 3 [⟨1, X⟩, ⟨5, Y⟩, ⟨17, Z⟩] _ (reads_blk HOB.out rfl) rfl (by omega) (Nat.le_refl _)
  rw [show judgeD (ownM M) [⟨1, X⟩, ⟨5, Y⟩, ⟨17, Z⟩] = (1, naksOf M X Z, 0) from naks_first hM.1 hM.2 X Y Z hx hy hz hv] at hj
  refine hj.mono ?_
  clear hj hob
  rintro e w2 ⟨v2, rfl, hk2⟩
  have own2 := hk2.own
  rw [show judgeD (ownM M) [⟨1, X⟩, ⟨5, Y⟩, ⟨17, Z⟩] = (1, naksOf M X Z, 0) from naks_first hM.1 hM.2 X Y Z hx hy hz hv] at own2
  obtain ⟨A2, c2, rfl, hn2, hm2, hA2⟩ := own_shape own2
  have hOB2 := Lib.hid (Blk.below HOB.out hk2.below (Blk.lt HOB.out))
  have hl2 := Lib.hid (LinkAt.below hl.out hk2.below)
  have hw2 := Lib.hid (below_trans' HW.out HW.out.size hk2.below)
  have hgt := Blk.lt HOB.out
  have OWN2 := Lib.hid (own_base own2 (Nat.zero_le _))
  obtain ⟨hR1, hR3⟩ := naks_len M X Z
  have h1 := Lib.hid (fold_1 M X Z)
  have h5 := Lib.hid (fold_5 M X Z Y)
  have h17 := Lib.hid (fold_17 M X Z)
  have hsec := Lib.hid (naks_second hM.1 hM.2 X Z hx hz)
  generalize naksOf M X Z = RS at *
  have hne : Value.ownBlock (.slice A2 RS.length c2) ≠ some b := by
    intro e
    rcases A2 with _ | ad
    · cases e
    · have h3 := hA2 ad rfl
      injection e with e
      omega
  clear hk2 own2 hA2 HOB HW hl hgt hw1
  obtain ⟨l0, l1, l2, l3, l4, l5⟩ := hl2.out.cells
  go_wp2_with (go_at_call 11; refine (num_any _ _).mono ?_; rintro e w' ⟨rfl, rfl⟩)
  have hbw : w.heap.size ≤ b := by omega
  clear l0 l1 l2 l3 l4 l5
  go_loopw [14, 15] (fun i _ wr => ∃ m : Nat, m ≤ RS.length ∧ i = .int .i64 m ∧ Blk wr b 36 (cells3 ((RS.take m).foldl rep1 ⟨1, X⟩) ((RS.take m).foldl rep1 ⟨5, Y⟩) ((RS.take m).foldl rep1 ⟨17, Z⟩)) ∧ wr.ownsRow 0 36 2 (.slice A2 RS.length c2) RS.length (optCells RS) ∧ LinkAt wr w1.heap.size (ownM M) ∧ Below w.heap.size w wr)
    (fun i _ _ => RS.length - (intOf i).toNat)
  case atStart => exact ⟨0, Nat.zero_le _, rfl, hOB2.out, OWN2.out, hl2.out, hw2.out⟩
  case round =>
    obtain ⟨m, hm, rfl, ho, hrs, hlk, hbl2⟩ := hrel
    have HO := Lib.hid ho
    have HRS := Lib.hid hrs
    have HLK := Lib.hid hlk
    have HBL := Lib.hid hbl2
    clear ho hrs hlk hbl2 hOB2 OWN2 hl2 hw2
    by_cases hlt : m < RS.length
    · obtain ⟨r, hr⟩ : ∃ r, r = RS[m]'hlt := ⟨_, rfl⟩
      have s1 := Lib.hid (fold_step RS ⟨1, X⟩ m hlt)
      have s5 := Lib.hid (fold_step RS ⟨5, Y⟩ m hlt)
      have s17 := Lib.hid (fold_step RS ⟨17, Z⟩ m hlt)
      rw [← hr] at s1 s5 s17
      generalize (RS.take m).foldl rep1 ⟨1, X⟩ = o1 at *
      generalize (RS.take m).foldl rep1 ⟨5, Y⟩ = o2 at *
      generalize (RS.take m).foldl rep1 ⟨17, Z⟩ = o3 at *
      go_wp2_with fail
      obtain ⟨wo, rfl⟩ : ∃ wo : World, wo = wr := ⟨_, rfl⟩
      go_loopw [15] (fun i wr => ∃ k : Nat, k ≤ 3 ∧ i = .int .i64 k ∧ Blk wr b 36 (cells3 (if 0 < k then rep1 o1 r else o1) (if 1 < k then rep1 o2 r else o2) (if 2 < k then rep1 o3 r else o3)) ∧ wr.ownsRow 0 36 2 (.slice A2 RS.length c2) RS.length (optCells RS) ∧ LinkAt wr w1.heap.size (ownM M) ∧ Below w.heap.size w wr)
        (fun i _ => 3 - (intOf i).toNat)
      case atStart => exact ⟨0, Nat.zero_le _, rfl, HO.out, HRS.out, HLK.out, HBL.out⟩
      case round =>
        obtain ⟨k, hk, rfl, ho, hrs, hlk, hbl2⟩ := hrel
        have HO2 := Lib.hid ho
        have HRS2 := Lib.hid hrs
        have HLK2 := Lib.hid hlk
        have HBL2 := Lib.hid hbl2
        clear ho hrs hlk hbl2
        obtain ⟨ad, rfl, had, r0, r1⟩ := opt_at (Reads.of_own HRS2.out) (Below.refl _ wr) m hlt rfl
        rw [← hr] at r0 r1
        clear hr
        have hcase : k = 0 ∨ k = 1 ∨ k = 2 ∨ k = 3 := by omega
        rcases hcase with rfl | rfl | rfl | rfl
        · have HB3 : Hid (Blk wr b 36 (cells3 o1 o2 o3)) := HO2
          have c0 : wr.cell? ⟨b, 0, none⟩ = some (.int .i64 o1.kind) := HB3.out.cell 0
          have c1 : wr.cell? ⟨b, 1, none⟩ = some (.string o1.data) := HB3.out.cell 1
          have f0 := Blk.frozen HB3.out 0
          have f1 := Blk.frozen HB3.out 1
          rcases he : (o1.kind == r.kind) with _ | _
          · have hrep : rep1 o1 r = o1 := if_neg (by simpa using he)
            go_wp2_with fail
            go_quiet (fail)
            go_wp2_with fail
            go_roundw
            case rel => exact ⟨1, by omega, by go_num, (by show Blk _ b 36 (cells3 (rep1 o1 r) o2 o3); rw [hrep]; exact HB3.out), HRS2.out, HLK2.out, below_drewN HBL2.out _⟩
            case measure => simp [intOf]
          · have hrep : rep1 o1 r = r := if_pos (by simpa using he)
            go_wp2_with fail
            go_quiet (fail)
            go_wp2_with fail
            go_roundw
            case rel =>
              have hN : Blk (((wr.drewN nq).setCell ⟨b, 0, none⟩ (.int .i64 r.kind)).setCell ⟨b, 1, none⟩ (.string r.data)) b 36 (cells3 r o2 o3) := Blk.set_ (Blk.set_ (Blk.drewN HB3.out nq) 0 _) 1 _
              have hG : wr.grownBy (((wr.drewN nq).setCell ⟨b, 0, none⟩ (.int .i64 r.kind)).setCell ⟨b, 1, none⟩ (.string r.data)) (some b) := only_setCell (only_setCell (only_drewN (World.grownBy.refl wr (some b)) nq) (.inl rfl) _) (.inl rfl) _
              exact ⟨1, by omega, by go_num, (by show Blk _ b 36 (cells3 (rep1 o1 r) o2 o3); rw [hrep]; exact hN), HRS2.out.kept hG (.inr hne), Blk.grown HLK2.out hG (by intro e; injection e with e; omega), HBL2.out.grown hG (by have := HBL2.out.size; omega) (fun g hg => by injection hg with hg; omega)⟩
            case measure => simp [intOf]
        · have HB3 : Hid (Blk wr b 36 (cells3 (rep1 o1 r) o2 o3)) := HO2
          have c0 : wr.cell? ⟨b, 2, none⟩ = some (.int .i64 o2.kind) := HB3.out.cell 2
          have c1 : wr.cell? ⟨b, 3, none⟩ = some (.string o2.data) := HB3.out.cell 3
          have f0 := Blk.frozen HB3.out 2
          have f1 := Blk.frozen HB3.out 3
          rcases he : (o2.kind == r.kind) with _ | _
          · have hrep : rep1 o2 r = o2 := if_neg (by simpa using he)
            go_wp2_with fail
            go_quiet (fail)
            go_wp2_with fail
            go_roundw
            case rel => exact ⟨2, by omega, by go_num, (by show Blk _ b 36 (cells3 (rep1 o1 r) (rep1 o2 r) o3); rw [hrep]; exact HB3.out), HRS2.out, HLK2.out, below_drewN HBL2.out _⟩
            case measure => simp [intOf]
          · have hrep : rep1 o2 r = r := if_pos (by simpa using he)
            go_wp2_with fail
            go_quiet (fail)
            go_wp2_with fail
            go_roundw
            case rel =>
              have hN : Blk (((wr.drewN nq).setCell ⟨b, 2, none⟩ (.int .i64 r.kind)).setCell ⟨b, 3, none⟩ (.string r.data)) b 36 (cells3 (rep1 o1 r) r o3) := Blk.set_ (Blk.set_ (Blk.drewN HB3.out nq) 2 _) 3 _
              have hG : wr.grownBy (((wr.drewN nq).setCell ⟨b, 2, none⟩ (.int .i64 r.kind)).setCell ⟨b, 3, none⟩ (.string r.data)) (some b) := only_setCell (only_setCell (only_drewN (World.grownBy.refl wr (some b)) nq) (.inl rfl) _) (.inl rfl) _
              exact ⟨2, by omega, by go_num, (by show Blk _ b 36 (cells3 (rep1 o1 r) (rep1 o2 r) o3); rw [hrep]; exact hN), HRS2.out.kept hG (.inr hne), Blk.grown HLK2.out hG (by intro e; injection e with e; omega), HBL2.out.grown hG (by have := HBL2.out.size; omega) (fun g hg => by injection hg with hg; omega)⟩
            case measure => simp [intOf]
        · have HB3 : Hid (Blk wr b 36 (cells3 (rep1 o1 r) (rep1 o2 r) o3)) := HO2
          have c0 : wr.cell? ⟨b, 4, none⟩ = some (.int .i64 o3.kind) := HB3.out.cell 4
          have c1 : wr.cell? ⟨b, 5, none⟩ = some (.string o3.data) := HB3.out.cell 5
          have f0 := Blk.frozen HB3.out 4
          have f1 := Blk.frozen HB3.out 5
          rcases he : (o3.kind == r.kind) with _ | _
          · have hrep : rep1 o3 r = o3 := if_neg (by simpa using he)
            go_wp2_with fail
            go_quiet (fail)
            go_wp2_with fail
            go_roundw
            case rel => exact ⟨3, by omega, by go_num, (by show Blk _ b 36 (cells3 (rep1 o1 r) (rep1 o2 r) (rep1 o3 r)); rw [hrep]; exact HB3.out), HRS2.out, HLK2.out, below_drewN HBL2.out _⟩
            case measure => simp [intOf]
          · have hrep : rep1 o3 r = r := if_pos (by simpa using he)
            go_wp2_with fail
            go_quiet (fail)
            go_wp2_with fail
            go_roundw
            case rel =>
              have hN : Blk (((wr.drewN nq).setCell ⟨b, 4, none⟩ (.int .i64 r.kind)).setCell ⟨b, 5, none⟩ (.string r.data)) b 36 (cells3 (rep1 o1 r) (rep1 o2 r) r) := Blk.set_ (Blk.set_ (Blk.drewN HB3.out nq) 4 _) 5 _
              have hG : wr.grownBy (((wr.drewN nq).setCell ⟨b, 4, none⟩ (.int .i64 r.kind)).setCell ⟨b, 5, none⟩ (.string r.data)) (some b) := only_setCell (only_setCell (only_drewN (World.grownBy.refl wr (some b)) nq) (.inl rfl) _) (.inl rfl) _
              exact ⟨3, by omega, by go_num, (by show Blk _ b 36 (cells3 (rep1 o1 r) (rep1 o2 r) (rep1 o3 r)); rw [hrep]; exact hN), HRS2.out.kept hG (.inr hne), Blk.grown HLK2.out hG (by intro e; injection e with e; omega), HBL2.out.grown hG (by have := HBL2.out.size; omega) (fun g hg => by injection hg with hg; omega)⟩
            case measure => simp [intOf]
        · have HB3 : Hid (Blk wr b 36 (cells3 (rep1 o1 r) (rep1 o2 r) (rep1 o3 r))) := HO2
          go_wp2_with fail
          go_roundw
          case rel => exact ⟨m + 1, by omega, by go_num, by rw [s1.out, s5.out, s17.out]; exact HB3.out, HRS2.out, HLK2.out, HBL2.out⟩
          case measure => simp [intOf]; omega
    · obtain rfl : m = RS.length := by omega
      have hO : Blk wr b 36 (cells3 ⟨1, fixOf X⟩ ⟨5, numB (4294967295 - M) 4⟩ ⟨17, fixOf Z⟩) := by
        have := HO.out
        rw [List.take_length, h1.out, h5.out, h17.out] at this
        exact this
      have HB := Lib.hid hO
      clear hO HO h1 h5 h17 HRS
      generalize fixOf X = FX at *
      generalize fixOf Z = FZ at *
      generalize numB (4294967295 - M) 4 = FE at *
      have hj := judge_any (ownM M) (some ⟨b, 0, none⟩) 3 3 [⟨1, FX⟩, ⟨5, FE⟩, ⟨17, FZ⟩] wr (reads_blk HB.out rfl) rfl (by omega) (Nat.le_refl _)
      rw [hsec.out] at hj
      obtain ⟨l0, l1, l2, l3, l4, l5⟩ := HLK.out.cells
      simp only [ownM] at l0 l1 l2 l3 l4 l5
      go_wp2_with fail
      refine hj.mono ?_
      clear hj
      rintro e w3 ⟨v3, rfl, hk3⟩
      have own3 := hk3.own
      rw [hsec.out] at own3
      obtain ⟨A3, c3, rfl, _⟩ := own_shape own3
      have hO3 := Blk.below HB.out hk3.below HB.out.lt
      have hw3 := Lib.hid (below_trans' HBL.out HBL.out.size hk3.below)
      have hsame := same_any [⟨1, FX⟩, ⟨5, FE⟩, ⟨17, FZ⟩] [⟨1, FX⟩, ⟨5, FE⟩, ⟨17, FZ⟩] A3 (some ⟨b, 0, none⟩) 3 3 c3 3 w3 (Reads.of_own own3) rfl (by omega) (reads_blk hO3 rfl) rfl (by omega)
      rw [decide_eq_true rfl] at hsame
      clear hk3 own3 hO3 l0 l1 l2 l3 l4 l5
      go_wp2_with (first | (go_at_call 11; refine (num_any _ _).mono ?_; rintro e w' ⟨rfl, rfl⟩) | (go_at_call 15; refine hsame.mono ?_; rintro e w4 ⟨rfl, hk4⟩))
      go_ret
      exact ⟨rfl, below_trans' hw3.out hw3.out.size hk4⟩

set_option maxRecDepth 100000 in
theorem policyNaks_lifted (os : Os) (started : os.Started) (H : Type) (enc : TypeId × Value → H) :
    ReturnsInHanded {} Try.checked os 7 .any (Rows.policyNaksSpec.pre6 enc Try.prog Try.f7 Rows.policyNaksRow.domain false) (Rows.policyNaksSpec.post enc Try.prog Try.f7 false true false false) := by
  refine returnsInHanded_of_change (C := Try.checked) own_knob started (by kernel_rfl) Try.func7
    (ChangeSpec.witness6 (enc := enc) (C := Try.checked) false ⟨#[], #[.int .i64 0, .int .i64 0, .int .i64 0], []⟩ 8 (by kernel_rfl) (by kernel_rfl) (by kernel_rfl) (by kernel_rfl)) ?_
  intro W base args ds gs before hval0 hW hcnd _
  have hval : ∀ (j : Nat) t v, Try.f7.params[j]? = some t → args[j]? = some v → Value.okWide Try.prog W .any base t v := hval0
  have hW' := hW
  obtain ⟨p, q, hA0, hV, rfl, hfz, hnd⟩ := hW
  have hA : DataW.TrodAll enc Try.prog W 0 (fun _ => true) true Try.f7.params.toList args.toList ds p := hA0
  rw [Try.params7] at hA hval
  obtain ⟨v0, vs0, d0, ds0, p0, q0, hargs, rfl, rfl, h0, r0⟩ := trodAll_cons hA
  obtain ⟨v1, vs1, d1, ds1, p1, q1, rfl, rfl, rfl, h1, r1⟩ := trodAll_cons r0
  obtain ⟨v2, vs2, d2, ds2, p2, q2, rfl, rfl, rfl, h2, r2⟩ := trodAll_cons r1
  obtain ⟨rfl, rfl, rfl⟩ := trodAll_nil r2
  obtain rfl : args = #[v0, v1, v2] := by cases args; simp_all
  obtain ⟨rfl, rfl⟩ := trodVars_none hV
  have k0 := h0
  obtain ⟨magic, rfl, rfl, rfl, w0⟩ := open_int Try.underlying3 (hval 0 3 v0 rfl rfl) h0
  have k1 := h1
  obtain ⟨unit_, rfl, rfl, rfl, w1⟩ := open_int Try.underlying3 (hval 1 3 v1 rfl rfl) h1
  have k2 := h2
  obtain ⟨mrru, rfl, rfl, rfl, w2⟩ := open_int Try.underlying3 (hval 2 3 v2 rfl rfl) h2
  clear hA0 hval0
  refine (walk_policyNaks magic unit_ mrru W).mono fun e W' ⟨he, bel⟩ => ?_
  subst he
  exact ⟨_, rfl, _, _, _, [], _, [], hW', trodAll_cons_mk (shut_bool Try.underlying4 _) trodAll_mk0, (trodAll_cons_mk (Below.trod laid_out (by kernel_rfl) (of_decide_eq_true (by kernel_rfl)) k0 bel (trod_below k0)) (trodAll_cons_mk (Below.trod laid_out (by kernel_rfl) (of_decide_eq_true (by kernel_rfl)) k1 bel (trod_below k1)) (trodAll_cons_mk (Below.trod laid_out (by kernel_rfl) (of_decide_eq_true (by kernel_rfl)) k2 bel (trod_below k2)) trodAll_mk0))), rfl, bel.frame _, fun h => by cases h⟩

theorem policyNaks_holds : Rows.PolicyNaksSaid :=
  OpenClaim.holds_of_wide 7 Try.f7 rfl rfl rfl rfl rfl rfl rfl ⟨rfl, rfl, rfl, rfl, rfl⟩ rfl rfl rfl rfl rfl (by kernel_rfl) Try.func7 (by kernel_rfl)
    (of_decide_eq_true (by kernel_rfl)) (by unfold Func.isWrapper; first | (rw [if_pos (by decide +kernel)]; kernel_rfl) | (rw [if_neg (by decide +kernel)]; exact ⟨rfl, rfl⟩))
    (fun os started H enc _ => policyNaks_lifted os started H enc)
#print axioms policyNaks_holds
end Go.Proofs.Ythlfghheciamcaa
