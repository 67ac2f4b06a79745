/-
  Contracts, seventh part: the link behind an answer.
  Conditions: as each states.
-/
import Derived.Test.YthlfghheciamcaaDoorK6
namespace Go.Proofs.YthlfghheciamcaaDoor
open Go.RowKit
set_option linter.unusedVariables false

def learnD (l : LinkD) (code : Int) (os : List OptD) : LinkD × Int :=
  if l.may && (code == 3 || code == 4) then (l.learnAll (code == 3) os, 0) else (zeroL, 1400)
theorem learnAll_step (l : LinkD) (nak : Bool) (os : List OptD) (m : Nat) (h : m < os.length) : l.learnAll nak (os.take (m + 1)) = (l.learnAll nak (os.take m)).learn1 nak (os[m]'h) := by
  rw [show os.take (m + 1) = os.take m ++ [os[m]'h] by rw [List.take_add_one, List.getElem?_eq_getElem h]; rfl]
  unfold LinkD.learnAll
  rw [List.foldl_append]
  rfl

theorem learn_no (l : LinkD) (code : Int) (A : Option Addr) (n c : Nat) (os : List OptD) (w : World) (h : (l.may && (code == 3 || code == 4)) = false) :
    Calls Tryd.prog 41 #[.agg #[.int .i64 l.mru, .int .i64 l.magic, .int .i64 l.mrru, .bool l.short, .string l.disc, .int .i64 l.num], .int .i64 code, .slice A n c] w fun e w' =>
      e = .returned (.tuple #[.agg (learnD l code os).1.cells, .int .i64 (learnD l code os).2]) ∧ Below w.heap.size w w' := by
  have HN := Lib.hid (show learnD l code os = (zeroL, 1400) by unfold learnD; rw [h]; rfl)
  have hk0 : Blk ((w.alloc (.cells l.cells 23)).alloc (.cells zeroL.cells 23)) (w.heap.size + 1) 23 zeroL.cells := by
    have := Blk.new (w.alloc (.cells l.cells 23)) 23 zeroL.cells
    simp only [World.size_alloc] at this
    exact this
  have hb0 : Below w.heap.size w ((w.alloc (.cells l.cells 23)).alloc (.cells zeroL.cells 23)) := ((Below.refl _ _).alloc (Nat.le_refl _) _).alloc (by simp) _
  have HK0 := Lib.hid hk0
  have HB0 := Lib.hid hb0
  clear hk0 hb0
  rcases hmay : l.may with _ | _
  · go_enter Tryd.func41, Tryd.ntmps41
    go_wp2_with (go_at_call 23; refine (may_any l _).mono ?_; rintro e w1 ⟨rfl, hb1⟩; have hk1 := Blk.below HK0.out hb1 HK0.out.lt; obtain ⟨k0, k1, k2, k3, k4, k5⟩ := zero_cells hk1; have kf := hk1.frozen; have HB1 := Lib.hid hb1; clear hk1 hb1)
    refine bodyPost_ret (v := .tuple #[.agg #[.int .i64 0, .int .i64 0, .int .i64 0, .bool false, .string ⟨#[]⟩, .int .i64 0], .int .i64 1400]) (by simp [results, Tryd.results41, go_sem, k0, k1, k2, k3, k4, k5]) rfl ⟨by rw [HN.out]; rfl, ?_⟩
    exact below_six (below_trans' HB0.out HB0.out.size HB1.out) (by omega) _ _ _ _ _ _
  · have hc3 : (code != 3) = true := by rw [hmay] at h; simp only [Bool.true_and, Bool.or_eq_false_iff] at h; simp [bne, h.1]
    have hc4 : (code != 4) = true := by rw [hmay] at h; simp only [Bool.true_and, Bool.or_eq_false_iff] at h; simp [bne, h.2]
    clear h
    go_enter Tryd.func41, Tryd.ntmps41
    go_wp2_with (go_at_call 23; refine (may_any l _).mono ?_; rintro e w1 ⟨rfl, hb1⟩; have hk1 := Blk.below HK0.out hb1 HK0.out.lt; obtain ⟨k0, k1, k2, k3, k4, k5⟩ := zero_cells hk1; have kf := hk1.frozen; have HB1 := Lib.hid hb1; clear hk1 hb1)
    refine bodyPost_ret (v := .tuple #[.agg #[.int .i64 0, .int .i64 0, .int .i64 0, .bool false, .string ⟨#[]⟩, .int .i64 0], .int .i64 1400]) (by simp [results, Tryd.results41, go_sem, k0, k1, k2, k3, k4, k5]) rfl ⟨by rw [HN.out]; rfl, ?_⟩
    exact below_six (below_trans' HB0.out HB0.out.size HB1.out) (by omega) _ _ _ _ _ _
set_option maxRecDepth 100000 in
set_option maxHeartbeats 2000000 in
theorem learn_nak (l : LinkD) (A : Option Addr) (n c : Nat) (os : List OptD) (w : World) (h : l.may = true) (hr : Reads w w.heap.size 2 A n (optCells os)) (hn : os.length = n) (hn2 : n ≤ 9223372036854775806)
    (hd : ∀ o ∈ os, o.data.size ≤ 140737488351232) :
    Calls Tryd.prog 41 #[.agg #[.int .i64 l.mru, .int .i64 l.magic, .int .i64 l.mrru, .bool l.short, .string l.disc, .int .i64 l.num], .int .i64 3, .slice A n c] w fun e w' =>
      e = .returned (.tuple #[.agg (l.learnAll true os).cells, .int .i64 0]) ∧ Below w.heap.size w w' := by
  have hk0 : Blk ((w.alloc (.cells l.cells 23)).alloc (.cells zeroL.cells 23)) (w.heap.size + 1) 23 zeroL.cells := by
    have := Blk.new (w.alloc (.cells l.cells 23)) 23 zeroL.cells
    simp only [World.size_alloc] at this
    exact this
  have hb0 : Below w.heap.size w ((w.alloc (.cells l.cells 23)).alloc (.cells zeroL.cells 23)) := ((Below.refl _ _).alloc (Nat.le_refl _) _).alloc (by simp) _
  have hl0 : Blk ((w.alloc (.cells l.cells 23)).alloc (.cells zeroL.cells 23)) w.heap.size 23 l.cells := Blk.alloc (Blk.new w 23 l.cells) _
  have HK0 := Lib.hid hk0
  have HB0 := Lib.hid hb0
  have HL0 := Lib.hid hl0
  have HD := Lib.hid hd
  clear hk0 hb0 hl0 hd
  go_enter Tryd.func41, Tryd.ntmps41
  go_wp2_with (go_at_call 23; refine (may_any l _).mono ?_; rintro e w1 ⟨rfl, hb1⟩; have hk1 := Blk.below HK0.out hb1 HK0.out.lt; have hl1 := Blk.below HL0.out hb1 HL0.out.lt; have q0 : w1.cell? ⟨w.heap.size, 0, none⟩ = some (.int .i64 l.mru) := hl1.cell 0; have q1 : w1.cell? ⟨w.heap.size, 1, none⟩ = some (.int .i64 l.magic) := hl1.cell 1; have q2 : w1.cell? ⟨w.heap.size, 2, none⟩ = some (.int .i64 l.mrru) := hl1.cell 2; have q3 : w1.cell? ⟨w.heap.size, 3, none⟩ = some (.bool l.short) := hl1.cell 3; have q4 : w1.cell? ⟨w.heap.size, 4, none⟩ = some (.string l.disc) := hl1.cell 4; have q5 : w1.cell? ⟨w.heap.size, 5, none⟩ = some (.int .i64 l.num) := hl1.cell 5; have HB1 := Lib.hid hb1; have HK1 := Lib.hid hk1; clear hk1 hb1 hl1)
  clear q0 q1 q2 q3 q4 q5
  have hs2 : Side (w1.alloc (.cells l.cells 103)) w1.heap.size l := Blk.new w1 103 l.cells
  have hk2 : Blk (w1.alloc (.cells l.cells 103)) (w.heap.size + 1) 23 zeroL.cells := Blk.alloc HK1.out _
  have hba := below_trans' HB0.out HB0.out.size HB1.out
  have hb2 : Below w.heap.size w (w1.alloc (.cells l.cells 103)) := hba.alloc hba.size _
  have hlb : w.heap.size + 1 < w1.heap.size := HK1.out.lt
  have HS2 := Lib.hid hs2
  have HK2 := Lib.hid hk2
  have HB2 := Lib.hid hb2
  generalize w1.heap.size = b at *
  clear hs2 hk2 hba hb2 HK0 HB0 HL0 HK1 HB1
  go_loopw [10, 28] (fun _ i wr => ∃ (m : Nat), m ≤ n ∧ i = .int .i64 m ∧ Side wr b (l.learnAll true (os.take m)) ∧ Blk wr (w.heap.size + 1) 23 zeroL.cells ∧ Below w.heap.size w wr)
    (fun _ i _ => n - (intOf i).toNat)
  case atStart => exact ⟨0, Nat.zero_le _, rfl, HS2.out, HK2.out, HB2.out⟩
  case round =>
    obtain ⟨m, hm, rfl, hs, hk, hb⟩ := hrel
    have HS := Lib.hid hs
    have HK := Lib.hid hk
    have HB := Lib.hid hb
    have hz := hb.size
    have hlt1 := hs.lt
    clear hs hk hb HS2 HK2 HB2
    by_cases hlt : m < n
    · obtain ⟨ad, hA, hbl, hc0, hc1⟩ := opt_at hr HB.out m (by omega) hn
      subst hA
      have hod := HD.out (os[m]'(by omega)) (List.getElem_mem _)
      have HG := Lib.hid (learnAll_step l true os m (by omega))
      generalize os[m]'(by omega) = o at hc0 hc1 hod HG
      generalize l.learnAll true (os.take m) = LQ at HS HG
      rcases hrb : rightB o with _ | _
      · have HN := Lib.hid (show l.learnAll true (os.take (m + 1)) = LQ by rw [HG.out]; simp only [LinkD.learn1, hrb]; rfl)
        clear HG
        go_wp2_with (go_at_call 53; refine (right_any o _).mono ?_; rintro e w3 ⟨rfl, hb3⟩; have hs3 : Side w3 b LQ := Blk.below (Blk.alloc HS.out _) hb3 (by have := HS.out.lt; simp; omega); have ho3 := Blk.below (Blk.new wr 79 #[.int .i64 o.kind, .string o.data]) hb3 (by simp); have hk3 := Blk.below (Blk.alloc HK.out (.cells #[.int .i64 o.kind, .string o.data] 79)) hb3 (by have := HK.out.lt; simp; omega); have e0 : w3.cell? ⟨wr.heap.size, 0, none⟩ = some (.int .i64 o.kind) := ho3.cell 0; have e1 : w3.cell? ⟨wr.heap.size, 1, none⟩ = some (.string o.data) := ho3.cell 1; have HS3 := Lib.hid hs3; have HK3 := Lib.hid hk3; have HB3 := Lib.hid (below_trans' (HB.out.alloc hz _) (by simp; omega) hb3); clear hs3 ho3 hk3 hb3)
        go_roundw
        case rel => exact ⟨m + 1, by omega, by go_num, by rw [HN.out]; exact HS3.out, HK3.out, HB3.out⟩
        case measure => simp [intOf]; omega
      · rcases has : LQ.asks o.kind with _ | _
        · have HN := Lib.hid (show l.learnAll true (os.take (m + 1)) = LQ by rw [HG.out]; simp only [LinkD.learn1, hrb, has]; rfl)
          clear HG
          go_wp2_with (first | (go_at_call 53; refine (right_any o _).mono ?_; rintro e w3 ⟨rfl, hb3⟩; have hs3 : Side w3 b LQ := Blk.below (Blk.alloc HS.out _) hb3 (by have := HS.out.lt; simp; omega); have ho3 := Blk.below (Blk.new wr 79 #[.int .i64 o.kind, .string o.data]) hb3 (by simp); have hk3 := Blk.below (Blk.alloc HK.out (.cells #[.int .i64 o.kind, .string o.data] 79)) hb3 (by have := HK.out.lt; simp; omega); have e0 : w3.cell? ⟨wr.heap.size, 0, none⟩ = some (.int .i64 o.kind) := ho3.cell 0; have e1 : w3.cell? ⟨wr.heap.size, 1, none⟩ = some (.string o.data) := ho3.cell 1; have HS3 := Lib.hid hs3; have HK3 := Lib.hid hk3; have HB3 := Lib.hid (below_trans' (HB.out.alloc hz _) (by simp; omega) hb3); clear hs3 ho3 hk3 hb3) | (go_at_call 56; refine (asks_any b LQ o.kind _ HS3.out).mono ?_; rintro e w' ⟨rfl, rfl⟩))
          go_roundw
          case rel => exact ⟨m + 1, by omega, by go_num, by rw [HN.out]; exact HS3.out, HK3.out, HB3.out⟩
          case measure => simp [intOf]; omega
        · have HN := Lib.hid (show l.learnAll true (os.take (m + 1)) = LQ.learn o by rw [HG.out]; simp only [LinkD.learn1, hrb, has]; rfl)
          clear HG
          go_wp2_with (first | (go_at_call 53; refine (right_any o _).mono ?_; rintro e w3 ⟨rfl, hb3⟩; have hs3 : Side w3 b LQ := Blk.below (Blk.alloc HS.out _) hb3 (by have := HS.out.lt; simp; omega); have ho3 := Blk.below (Blk.new wr 79 #[.int .i64 o.kind, .string o.data]) hb3 (by simp); have hk3 := Blk.below (Blk.alloc HK.out (.cells #[.int .i64 o.kind, .string o.data] 79)) hb3 (by have := HK.out.lt; simp; omega); have e0 : w3.cell? ⟨wr.heap.size, 0, none⟩ = some (.int .i64 o.kind) := ho3.cell 0; have e1 : w3.cell? ⟨wr.heap.size, 1, none⟩ = some (.string o.data) := ho3.cell 1; have HS3 := Lib.hid hs3; have HK3 := Lib.hid hk3; have HB3 := Lib.hid (below_trans' (HB.out.alloc hz _) (by simp; omega) hb3); clear hs3 ho3 hk3 hb3) | (go_at_call 56; refine (asks_any b LQ o.kind _ HS3.out).mono ?_; rintro e w' ⟨rfl, rfl⟩) | (go_at_call 58; refine (learn_any b LQ o _ HS3.out (right_kind hrb) hod).mono ?_; rintro e w4 ⟨rfl, hto⟩))
          go_roundw
          case rel => exact ⟨m + 1, by omega, by go_num, by rw [HN.out]; exact hto.side, Blk.grown HK3.out hto.grown (by simp; omega), HB3.out.grown hto.grown HB3.out.size (fun q hq => by injection hq with hq; omega)⟩
          case measure => simp [intOf]; omega
    · obtain rfl : m = n := by omega
      have HN := Lib.hid (show l.learnAll true (os.take m) = l.learnAll true os by rw [List.take_of_length_le (by omega)])
      obtain ⟨k0, k1, k2, k3, k4, k5⟩ := zero_cells HK.out
      have kf := HK.out.frozen
      generalize l.learnAll true (os.take m) = LQ at HS HN
      obtain ⟨s0, s1, s2, s3, s4, s5⟩ := HS.out.cells
      go_wp2
      refine bodyPost_ret (v := .tuple #[.agg LQ.cells, .int .i64 0]) (by simp [results, Tryd.results41, go_sem, LinkD.cells, k0, k1, k2, k3, k4, k5]) rfl ⟨by rw [HN.out], ?_⟩
      exact below_six HB.out (by omega) _ _ _ _ _ _

set_option maxRecDepth 100000 in
set_option maxHeartbeats 2000000 in
theorem learn_rej (l : LinkD) (A : Option Addr) (n c : Nat) (os : List OptD) (w : World) (h : l.may = true) (hr : Reads w w.heap.size 2 A n (optCells os)) (hn : os.length = n) (hn2 : n ≤ 9223372036854775806)
    (hd : ∀ o ∈ os, o.data.size ≤ 140737488351232) :
    Calls Tryd.prog 41 #[.agg #[.int .i64 l.mru, .int .i64 l.magic, .int .i64 l.mrru, .bool l.short, .string l.disc, .int .i64 l.num], .int .i64 4, .slice A n c] w fun e w' =>
      e = .returned (.tuple #[.agg (l.learnAll false os).cells, .int .i64 0]) ∧ Below w.heap.size w w' := by
  have hk0 : Blk ((w.alloc (.cells l.cells 23)).alloc (.cells zeroL.cells 23)) (w.heap.size + 1) 23 zeroL.cells := by
    have := Blk.new (w.alloc (.cells l.cells 23)) 23 zeroL.cells
    simp only [World.size_alloc] at this
    exact this
  have hb0 : Below w.heap.size w ((w.alloc (.cells l.cells 23)).alloc (.cells zeroL.cells 23)) := ((Below.refl _ _).alloc (Nat.le_refl _) _).alloc (by simp) _
  have hl0 : Blk ((w.alloc (.cells l.cells 23)).alloc (.cells zeroL.cells 23)) w.heap.size 23 l.cells := Blk.alloc (Blk.new w 23 l.cells) _
  have HK0 := Lib.hid hk0
  have HB0 := Lib.hid hb0
  have HL0 := Lib.hid hl0
  have HD := Lib.hid hd
  clear hk0 hb0 hl0 hd
  go_enter Tryd.func41, Tryd.ntmps41
  go_wp2_with (go_at_call 23; refine (may_any l _).mono ?_; rintro e w1 ⟨rfl, hb1⟩; have hk1 := Blk.below HK0.out hb1 HK0.out.lt; have hl1 := Blk.below HL0.out hb1 HL0.out.lt; have q0 : w1.cell? ⟨w.heap.size, 0, none⟩ = some (.int .i64 l.mru) := hl1.cell 0; have q1 : w1.cell? ⟨w.heap.size, 1, none⟩ = some (.int .i64 l.magic) := hl1.cell 1; have q2 : w1.cell? ⟨w.heap.size, 2, none⟩ = some (.int .i64 l.mrru) := hl1.cell 2; have q3 : w1.cell? ⟨w.heap.size, 3, none⟩ = some (.bool l.short) := hl1.cell 3; have q4 : w1.cell? ⟨w.heap.size, 4, none⟩ = some (.string l.disc) := hl1.cell 4; have q5 : w1.cell? ⟨w.heap.size, 5, none⟩ = some (.int .i64 l.num) := hl1.cell 5; have HB1 := Lib.hid hb1; have HK1 := Lib.hid hk1; clear hk1 hb1 hl1)
  clear q0 q1 q2 q3 q4 q5
  have hs2 : Side (w1.alloc (.cells l.cells 103)) w1.heap.size l := Blk.new w1 103 l.cells
  have hk2 : Blk (w1.alloc (.cells l.cells 103)) (w.heap.size + 1) 23 zeroL.cells := Blk.alloc HK1.out _
  have hba := below_trans' HB0.out HB0.out.size HB1.out
  have hb2 : Below w.heap.size w (w1.alloc (.cells l.cells 103)) := hba.alloc hba.size _
  have hlb : w.heap.size + 1 < w1.heap.size := HK1.out.lt
  have HS2 := Lib.hid hs2
  have HK2 := Lib.hid hk2
  have HB2 := Lib.hid hb2
  generalize w1.heap.size = b at *
  clear hs2 hk2 hba hb2 HK0 HB0 HL0 HK1 HB1
  go_loopw [10, 28] (fun _ i wr => ∃ (m : Nat), m ≤ n ∧ i = .int .i64 m ∧ Side wr b (l.learnAll false (os.take m)) ∧ Blk wr (w.heap.size + 1) 23 zeroL.cells ∧ Below w.heap.size w wr)
    (fun _ i _ => n - (intOf i).toNat)
  case atStart => exact ⟨0, Nat.zero_le _, rfl, HS2.out, HK2.out, HB2.out⟩
  case round =>
    obtain ⟨m, hm, rfl, hs, hk, hb⟩ := hrel
    have HS := Lib.hid hs
    have HK := Lib.hid hk
    have HB := Lib.hid hb
    have hz := hb.size
    have hlt1 := hs.lt
    clear hs hk hb HS2 HK2 HB2
    by_cases hlt : m < n
    · obtain ⟨ad, hA, hbl, hc0, hc1⟩ := opt_at hr HB.out m (by omega) hn
      subst hA
      have hod := HD.out (os[m]'(by omega)) (List.getElem_mem _)
      have HG := Lib.hid (learnAll_step l false os m (by omega))
      generalize os[m]'(by omega) = o at hc0 hc1 hod HG
      generalize l.learnAll false (os.take m) = LQ at HS HG
      rcases hrb : rightB o with _ | _
      · have HN := Lib.hid (show l.learnAll false (os.take (m + 1)) = LQ by rw [HG.out]; simp only [LinkD.learn1, hrb]; rfl)
        clear HG
        go_wp2_with (go_at_call 53; refine (right_any o _).mono ?_; rintro e w3 ⟨rfl, hb3⟩; have hs3 : Side w3 b LQ := Blk.below (Blk.alloc HS.out _) hb3 (by have := HS.out.lt; simp; omega); have ho3 := Blk.below (Blk.new wr 79 #[.int .i64 o.kind, .string o.data]) hb3 (by simp); have hk3 := Blk.below (Blk.alloc HK.out (.cells #[.int .i64 o.kind, .string o.data] 79)) hb3 (by have := HK.out.lt; simp; omega); have e0 : w3.cell? ⟨wr.heap.size, 0, none⟩ = some (.int .i64 o.kind) := ho3.cell 0; have e1 : w3.cell? ⟨wr.heap.size, 1, none⟩ = some (.string o.data) := ho3.cell 1; have HS3 := Lib.hid hs3; have HK3 := Lib.hid hk3; have HB3 := Lib.hid (below_trans' (HB.out.alloc hz _) (by simp; omega) hb3); clear hs3 ho3 hk3 hb3)
        go_roundw
        case rel => exact ⟨m + 1, by omega, by go_num, by rw [HN.out]; exact HS3.out, HK3.out, HB3.out⟩
        case measure => simp [intOf]; omega
      · rcases has : LQ.asks o.kind with _ | _
        · have HN := Lib.hid (show l.learnAll false (os.take (m + 1)) = LQ by rw [HG.out]; simp only [LinkD.learn1, hrb, has]; rfl)
          clear HG
          go_wp2_with (first | (go_at_call 53; refine (right_any o _).mono ?_; rintro e w3 ⟨rfl, hb3⟩; have hs3 : Side w3 b LQ := Blk.below (Blk.alloc HS.out _) hb3 (by have := HS.out.lt; simp; omega); have ho3 := Blk.below (Blk.new wr 79 #[.int .i64 o.kind, .string o.data]) hb3 (by simp); have hk3 := Blk.below (Blk.alloc HK.out (.cells #[.int .i64 o.kind, .string o.data] 79)) hb3 (by have := HK.out.lt; simp; omega); have e0 : w3.cell? ⟨wr.heap.size, 0, none⟩ = some (.int .i64 o.kind) := ho3.cell 0; have e1 : w3.cell? ⟨wr.heap.size, 1, none⟩ = some (.string o.data) := ho3.cell 1; have HS3 := Lib.hid hs3; have HK3 := Lib.hid hk3; have HB3 := Lib.hid (below_trans' (HB.out.alloc hz _) (by simp; omega) hb3); clear hs3 ho3 hk3 hb3) | (go_at_call 56; refine (asks_any b LQ o.kind _ HS3.out).mono ?_; rintro e w' ⟨rfl, rfl⟩))
          go_roundw
          case rel => exact ⟨m + 1, by omega, by go_num, by rw [HN.out]; exact HS3.out, HK3.out, HB3.out⟩
          case measure => simp [intOf]; omega
        · have HN := Lib.hid (show l.learnAll false (os.take (m + 1)) = LQ.clear o.kind by rw [HG.out]; simp only [LinkD.learn1, hrb, has]; rfl)
          clear HG
          go_wp2_with (first | (go_at_call 53; refine (right_any o _).mono ?_; rintro e w3 ⟨rfl, hb3⟩; have hs3 : Side w3 b LQ := Blk.below (Blk.alloc HS.out _) hb3 (by have := HS.out.lt; simp; omega); have ho3 := Blk.below (Blk.new wr 79 #[.int .i64 o.kind, .string o.data]) hb3 (by simp); have hk3 := Blk.below (Blk.alloc HK.out (.cells #[.int .i64 o.kind, .string o.data] 79)) hb3 (by have := HK.out.lt; simp; omega); have e0 : w3.cell? ⟨wr.heap.size, 0, none⟩ = some (.int .i64 o.kind) := ho3.cell 0; have e1 : w3.cell? ⟨wr.heap.size, 1, none⟩ = some (.string o.data) := ho3.cell 1; have HS3 := Lib.hid hs3; have HK3 := Lib.hid hk3; have HB3 := Lib.hid (below_trans' (HB.out.alloc hz _) (by simp; omega) hb3); clear hs3 ho3 hk3 hb3) | (go_at_call 56; refine (asks_any b LQ o.kind _ HS3.out).mono ?_; rintro e w' ⟨rfl, rfl⟩) | (go_at_call 57; refine (clear_any b LQ o.kind _ HS3.out (right_kind hrb)).mono ?_; rintro e w4 ⟨rfl, hto⟩))
          go_roundw
          case rel => exact ⟨m + 1, by omega, by go_num, by rw [HN.out]; exact hto.side, Blk.grown HK3.out hto.grown (by simp; omega), HB3.out.grown hto.grown HB3.out.size (fun q hq => by injection hq with hq; omega)⟩
          case measure => simp [intOf]; omega
    · obtain rfl : m = n := by omega
      have HN := Lib.hid (show l.learnAll false (os.take m) = l.learnAll false os by rw [List.take_of_length_le (by omega)])
      obtain ⟨k0, k1, k2, k3, k4, k5⟩ := zero_cells HK.out
      have kf := HK.out.frozen
      generalize l.learnAll false (os.take m) = LQ at HS HN
      obtain ⟨s0, s1, s2, s3, s4, s5⟩ := HS.out.cells
      go_wp2
      refine bodyPost_ret (v := .tuple #[.agg LQ.cells, .int .i64 0]) (by simp [results, Tryd.results41, go_sem, LinkD.cells, k0, k1, k2, k3, k4, k5]) rfl ⟨by rw [HN.out], ?_⟩
      exact below_six HB.out (by omega) _ _ _ _ _ _

theorem learn_call (l : LinkD) (code : Int) (A : Option Addr) (n c : Nat) (os : List OptD) (w : World) (hr : Reads w w.heap.size 2 A n (optCells os)) (hn : os.length = n) (hn2 : n ≤ 9223372036854775806)
    (hd : ∀ o ∈ os, o.data.size ≤ 140737488351232) :
    Calls Tryd.prog 41 #[.agg #[.int .i64 l.mru, .int .i64 l.magic, .int .i64 l.mrru, .bool l.short, .string l.disc, .int .i64 l.num], .int .i64 code, .slice A n c] w fun e w' =>
      e = .returned (.tuple #[.agg (learnD l code os).1.cells, .int .i64 (learnD l code os).2]) ∧ Below w.heap.size w w' := by
  rcases h : (l.may && (code == 3 || code == 4)) with _ | _
  · exact learn_no l code A n c os w h
  · have hm : l.may = true := (Bool.and_eq_true_iff.1 h).1
    by_cases h3 : code = 3
    · subst h3
      have e : learnD l 3 os = (l.learnAll true os, 0) := by unfold learnD; rw [hm]; rfl
      rw [e]
      exact learn_nak l A n c os w hm hr hn hn2 hd
    · have h4 : code = 4 := by
        have := (Bool.and_eq_true_iff.1 h).2
        simp [h3] at this
        exact this
      subst h4
      have e : learnD l 4 os = (l.learnAll false os, 0) := by unfold learnD; rw [hm]; rfl
      rw [e]
      exact learn_rej l A n c os w hm hr hn hn2 hd
end Go.Proofs.YthlfghheciamcaaDoor
