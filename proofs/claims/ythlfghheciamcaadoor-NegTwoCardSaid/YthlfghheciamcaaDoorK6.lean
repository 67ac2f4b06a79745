/-
  Contracts, sixth part: the link that asks by options.
  Conditions: as each states.
-/
import Derived.Test.YthlfghheciamcaaDoorK5
namespace Go.Proofs.YthlfghheciamcaaDoor
open Go.RowKit
set_option linter.unusedVariables false

def zeroL : LinkD := ⟨0, 0, 0, false, ⟨#[]⟩, 0⟩
def twiceB (pre : List OptD) (o : OptD) : Bool := pre.any fun p => p.kind == o.kind
def takenGo (l : LinkD) (pre : List OptD) : List OptD → Option LinkD
  | [] => some l
  | o :: os => if rightB o && !twiceB pre o then takenGo (l.set o) (pre ++ [o]) os else none
def takenD (os : List OptD) : LinkD × Int :=
  match takenGo zeroL [] os with
  | some l => if l.may then (l, 0) else (zeroL, 1400)
  | none => (zeroL, 1400)

theorem Reads.take_ {w : World} {B size n k : Nat} {A : Option Addr} {xs : List Value} (h : Reads w B size A n xs) (hk : k ≤ n) : Reads w B size A k (xs.take (k * size)) := by
  refine ⟨?_, fun hn => ?_⟩
  · rw [List.length_take, h.1]; exact Nat.min_eq_left (Nat.mul_le_mul_right _ hk)
  · obtain ⟨ad, hA, hb, hc⟩ := h.2 (by omega)
    exact ⟨ad, hA, hb, fun j u hu => hc j u (by
      rw [List.getElem?_take] at hu
      split at hu
      · exact hu
      · cases hu)⟩
theorem grown_row {a b c : World} {r : Option Nat} (h : a.grownBy b r) (k : b.grownBy c r) : a.grownBy c r :=
  ⟨k.os.trans h.os, k.tape.trans h.tape, k.output.trans h.output, Nat.le_trans h.size k.size, fun i hi hne => (k.block i (Nat.lt_of_lt_of_le hi h.size) hne).trans (h.block i hi hne)⟩
theorem find_twice (pre : List OptD) (o : OptD) : (decide (0 ≤ findI o.kind pre)) = twiceB pre o := by
  have h := findFrom_any o.kind pre 0 (by omega)
  unfold twiceB findI
  cases ha : pre.any (fun p => p.kind == o.kind) with
  | true => exact decide_eq_true (h.1 ha)
  | false => rw [h.2 ha]; rfl

theorem takenGo_step (l : LinkD) (os : List OptD) (m : Nat) (h : m < os.length) : takenGo l (os.take m) (os.drop m) = if rightB (os[m]'h) && !twiceB (os.take m) (os[m]'h) then takenGo (l.set (os[m]'h)) (os.take (m + 1)) (os.drop (m + 1)) else none := by
  rw [List.drop_eq_getElem_cons h, takenGo, List.take_add_one, List.getElem?_eq_getElem h]; rfl
theorem right_kind {o : OptD} (h : rightB o = true) : sizeK o.kind ≠ -2 := by
  intro e
  simp only [rightB, e, Bool.or_eq_true, beq_iff_eq, Bool.and_eq_true] at h
  rcases h with h | h
  · omega
  · exact absurd h.1 (by decide)

theorem zero_cells {w : World} {b : Nat} {T : TypeId} (h : Blk w b T zeroL.cells) :
    w.cell? ⟨b, 0, none⟩ = some (.int .i64 0) ∧ w.cell? ⟨b, 1, none⟩ = some (.int .i64 0) ∧ w.cell? ⟨b, 2, none⟩ = some (.int .i64 0) ∧ w.cell? ⟨b, 3, none⟩ = some (.bool false) ∧ w.cell? ⟨b, 4, none⟩ = some (.string ⟨#[]⟩) ∧ w.cell? ⟨b, 5, none⟩ = some (.int .i64 0) :=
  ⟨h.cell 0, h.cell 1, h.cell 2, h.cell 3, h.cell 4, h.cell 5⟩

theorem below_six {B g : Nat} {w W : World} (h : Below B w W) (hg : B ≤ g) (a0 a1 a2 a3 a4 a5 : Value) :
    Below B w ((((((W.setCell ⟨g, 0, none⟩ a0).setCell ⟨g, 1, none⟩ a1).setCell ⟨g, 2, none⟩ a2).setCell ⟨g, 3, none⟩ a3).setCell ⟨g, 4, none⟩ a4).setCell ⟨g, 5, none⟩ a5) :=
  (((((h.setCell (p := ⟨g, 0, none⟩) hg a0).setCell (p := ⟨g, 1, none⟩) hg a1).setCell (p := ⟨g, 2, none⟩) hg a2).setCell (p := ⟨g, 3, none⟩) hg a3).setCell (p := ⟨g, 4, none⟩) hg a4).setCell (p := ⟨g, 5, none⟩) hg a5

set_option maxRecDepth 100000 in
set_option maxHeartbeats 2000000 in
theorem taken_any (os : List OptD) (A : Option Addr) (n c : Nat) (w : World) (hr : Reads w w.heap.size 2 A n (optCells os)) (hn : os.length = n) (hn2 : n ≤ 9223372036854775806) (hc : n ≤ c)
    (hd : ∀ o ∈ os, o.data.size ≤ 140737488351232) :
    Calls Tryd.prog 47 #[.slice A n c] w fun e w' => e = .returned (.tuple #[.agg (takenD os).1.cells, .int .i64 (takenD os).2]) ∧ Below w.heap.size w w' := by
  go_enter Tryd.func47, Tryd.ntmps47
  go_wp2
  have hs0 : Side ((w.alloc (.cells zeroL.cells 23)).alloc (.cells zeroL.cells 103)) (w.heap.size + 1) zeroL := by
    have := Blk.new (w.alloc (.cells zeroL.cells 23)) 103 zeroL.cells
    simp only [World.size_alloc] at this
    exact this
  have hk0 : Blk ((w.alloc (.cells zeroL.cells 23)).alloc (.cells zeroL.cells 103)) w.heap.size 23 zeroL.cells := Blk.alloc (Blk.new w 23 zeroL.cells) _
  have hb0 : Below w.heap.size w ((w.alloc (.cells zeroL.cells 23)).alloc (.cells zeroL.cells 103)) := ((Below.refl _ _).alloc (Nat.le_refl _) _).alloc (by simp) _
  have HS0 := Lib.hid hs0
  have HK0 := Lib.hid hk0
  have HB0 := Lib.hid hb0
  have HD := Lib.hid hd
  clear hs0 hk0 hb0 hd
  go_loopw [5, 6, 11] (fun _ _ i wr => ∃ (m : Nat) (l : LinkD), m ≤ n ∧ i = .int .i64 m ∧ takenGo zeroL [] os = takenGo l (os.take m) (os.drop m) ∧ Side wr (w.heap.size + 1) l ∧ Blk wr w.heap.size 23 zeroL.cells ∧ Below w.heap.size w wr)
    (fun _ _ i _ => n - (intOf i).toNat)
  case atStart => exact ⟨0, zeroL, Nat.zero_le _, rfl, rfl, HS0.out, HK0.out, HB0.out⟩
  case round =>
    obtain ⟨m, l, hm, rfl, ht, hs, hk, hb⟩ := hrel
    have HT := Lib.hid ht
    have HS := Lib.hid hs
    have HK := Lib.hid hk
    have HB := Lib.hid hb
    have hz := hb.size
    have hlt1 := hs.lt
    clear ht hs hk hb HS0 HK0 HB0
    by_cases hlt : m < n
    · obtain ⟨ad, hA, hbl, hc0, hc1⟩ := opt_at hr HB.out m (by omega) hn
      subst hA
      have hod := HD.out (os[m]'(by omega)) (List.getElem_mem _)
      have HG := Lib.hid (takenGo_step l os m (by omega))
      generalize os[m]'(by omega) = o at hc0 hc1 hod HG
      have hrx : ∀ x : Near (wr.alloc (.cells #[.int .i64 o.kind, .string o.data] 79)), Reads x.v x.v.heap.size 2 (some ad) m (optCells (os.take m)) := fun x => by
        have hbx : Below w.heap.size w x.v := below_trans' (HB.out.alloc HB.out.size _) (by simp; omega) x.below
        have := (hr.take_ hm).below hbx
        rw [optCells_take] at this
        exact this.more hbx.size
      have HRX := Lib.hid hrx
      clear hrx
      have hln : (os.take m).length = m := by rw [List.length_take]; omega
      have HLN := Lib.hid hln
      clear hln
      have n0 := Near.cell (w := wr.alloc (.cells #[.int .i64 o.kind, .string o.data] 79)) (a := ⟨wr.heap.size, 0, none⟩) (u := .int .i64 o.kind) (by simp)
      have n1 := Near.cell (w := wr.alloc (.cells #[.int .i64 o.kind, .string o.data] 79)) (a := ⟨wr.heap.size, 1, none⟩) (u := .string o.data) (by simp)
      have hxk : ∀ x : Near (wr.alloc (.cells #[.int .i64 o.kind, .string o.data] 79)), Blk x.v w.heap.size 23 zeroL.cells := fun x => Near.blk (Blk.alloc HK.out _) x
      have hxs : ∀ x : Near (wr.alloc (.cells #[.int .i64 o.kind, .string o.data] 79)), Side x.v (w.heap.size + 1) l := fun x => Near.blk (Blk.alloc HS.out _) x
      have hxb : ∀ x : Near (wr.alloc (.cells #[.int .i64 o.kind, .string o.data] 79)), Below w.heap.size w x.v := fun x => below_trans' (HB.out.alloc HB.out.size _) (by simp; omega) x.below
      have HXK := Lib.hid hxk
      have HXS := Lib.hid hxs
      have HXB := Lib.hid hxb
      clear hxk hxs hxb
      rcases hrb : rightB o with _ | _
      · have HN := Lib.hid (show takenD os = (zeroL, 1400) by unfold takenD; rw [HT.out, HG.out, hrb]; rfl)
        clear HT HG HD
        go_wp2_with fail
        refine wp_region_near (by kernel_rfl) (by kernel_rfl) ?_
        repeat (go_big_quiet_step ((go_at_call 53; exact near_of (right_any o _))))
        refine wpQuiet_nil ?_
        intro x
        obtain ⟨k0, k1, k2, k3, k4, k5⟩ := zero_cells (HXK.out x)
        have kf := (HXK.out x).frozen
        clear n0 n1
        go_wp2
        refine bodyPost_ret (v := .tuple #[.agg #[.int .i64 0, .int .i64 0, .int .i64 0, .bool false, .string ⟨#[]⟩, .int .i64 0], .int .i64 1400]) (by simp [results, Tryd.results47, go_sem, k0, k1, k2, k3, k4, k5]) rfl ⟨by rw [HN.out]; rfl, ?_⟩
        exact below_six (HXB.out x) (Nat.le_refl _) _ _ _ _ _ _
      · rcases htw : twiceB (os.take m) o with _ | _
        · have HN := Lib.hid (show takenGo zeroL [] os = takenGo (l.set o) (os.take (m + 1)) (os.drop (m + 1)) by rw [HT.out, HG.out, hrb, htw]; rfl)
          have hft : decide (0 ≤ findI o.kind (os.take m)) = false := by rw [find_twice, htw]
          have HSET := Lib.hid (fun x : Near (wr.alloc (.cells #[.int .i64 o.kind, .string o.data] 79)) => set_any (w.heap.size + 1) l o x.v (HXS.out x) (right_kind hrb) hod)
          clear HT HG
          go_wp2_with fail
          refine wp_region_near (by kernel_rfl) (by kernel_rfl) ?_
          repeat (go_big_quiet_step ((first | (go_at_call 53; exact near_of (right_any o _)) | (go_at_call 54; exact near_of (find_any (os.take m) (some ad) m c o.kind _ (HRX.out _) HLN.out (by omega))))))
          refine wpQuiet_nil ?_
          intro x
          have x0 := n0 x
          have x1 := n1 x
          clear n0 n1
          go_wp2_with (go_at_call 66; refine (HSET.out x).mono ?_; rintro e w' ⟨rfl, hto⟩)
          go_roundw
          case rel => exact ⟨m + 1, _, by omega, by go_num, HN.out, hto.side, Blk.grown (HXK.out x) hto.grown (by simp), (HXB.out x).grown hto.grown (HXB.out x).size (fun q hq => by injection hq with hq; omega)⟩
          case measure => simp [intOf]; omega
        · have HN := Lib.hid (show takenD os = (zeroL, 1400) by unfold takenD; rw [HT.out, HG.out, hrb, htw]; rfl)
          have hft : decide (0 ≤ findI o.kind (os.take m)) = true := by rw [find_twice, htw]
          clear HT HG HD
          go_wp2_with fail
          refine wp_region_near (by kernel_rfl) (by kernel_rfl) ?_
          repeat (go_big_quiet_step ((first | (go_at_call 53; exact near_of (right_any o _)) | (go_at_call 54; exact near_of (find_any (os.take m) (some ad) m c o.kind _ (HRX.out _) HLN.out (by omega))))))
          refine wpQuiet_nil ?_
          intro x
          obtain ⟨k0, k1, k2, k3, k4, k5⟩ := zero_cells (HXK.out x)
          have kf := (HXK.out x).frozen
          clear n0 n1
          go_wp2
          refine bodyPost_ret (v := .tuple #[.agg #[.int .i64 0, .int .i64 0, .int .i64 0, .bool false, .string ⟨#[]⟩, .int .i64 0], .int .i64 1400]) (by simp [results, Tryd.results47, go_sem, k0, k1, k2, k3, k4, k5]) rfl ⟨by rw [HN.out]; rfl, ?_⟩
          exact below_six (HXB.out x) (Nat.le_refl _) _ _ _ _ _ _
    · obtain rfl : m = n := by omega
      have HN := Lib.hid (show takenD os = if l.may then (l, 0) else (zeroL, 1400) by
        unfold takenD; rw [HT.out, List.drop_of_length_le (by omega)]; rfl)
      obtain ⟨s0, s1, s2, s3, s4, s5⟩ := HS.out.cells
      rcases hmay : l.may with _ | _
      · go_wp2_with (go_at_call 23; refine (may_any l _).mono ?_; rintro e w1 ⟨rfl, hb1⟩; have hk1 := Blk.below HK.out hb1 HK.out.lt; obtain ⟨k0, k1, k2, k3, k4, k5⟩ := zero_cells hk1; have kf := hk1.frozen; have HB1 := Lib.hid hb1; clear hk1 hb1)
        refine bodyPost_ret (v := .tuple #[.agg #[.int .i64 0, .int .i64 0, .int .i64 0, .bool false, .string ⟨#[]⟩, .int .i64 0], .int .i64 1400]) (by simp [results, Tryd.results47, go_sem, k0, k1, k2, k3, k4, k5]) rfl ⟨by rw [HN.out, hmay]; rfl, ?_⟩
        exact below_six (below_trans' HB.out hz HB1.out) (Nat.le_refl _) _ _ _ _ _ _
      · go_wp2_with (go_at_call 23; refine (may_any l _).mono ?_; rintro e w1 ⟨rfl, hb1⟩; have hk1 := Blk.below HK.out hb1 HK.out.lt; obtain ⟨k0, k1, k2, k3, k4, k5⟩ := zero_cells hk1; have kf := hk1.frozen; obtain ⟨t0, t1, t2, t3, t4, t5⟩ := (HS.out.below hb1).cells; have HB1 := Lib.hid hb1; clear hk1 hb1)
        refine bodyPost_ret (v := .tuple #[.agg l.cells, .int .i64 0]) (by simp [results, Tryd.results47, go_sem, LinkD.cells, k0, k1, k2, k3, k4, k5]) rfl ⟨by rw [HN.out, hmay]; rfl, ?_⟩
        exact below_six (below_trans' HB.out hz HB1.out) (Nat.le_refl _) _ _ _ _ _ _
end Go.Proofs.YthlfghheciamcaaDoor
