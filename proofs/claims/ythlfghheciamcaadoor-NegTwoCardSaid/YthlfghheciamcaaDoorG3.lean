/-
  Contracts: control.Put.
  Conditions: as each states.
-/
import Derived.Test.YthlfghheciamcaaDoorG2
namespace Go.Proofs.YthlfghheciamcaaDoor
open Go.RowKit
set_option linter.unusedVariables false

structure PackD where
  code : Int
  id : Int
  opts : List OptD
  data : ByteArray

def octetB (x : Int) : Bool := decide (0 ≤ x) && decide (x ≤ 255)
def confB (x : Int) : Bool := decide (1 ≤ x) && decide (x ≤ 4)
def controlPut (p : PackD) : List UInt8 × Int :=
  if !octetB p.code || !octetB p.id then ([], 501)
  else if (optsPut p.opts).2 != 0 || (!confB p.code && decide (0 < p.opts.length)) || (confB p.code && !p.data.toList.isEmpty) then ([], 502)
  else if 2048 < 4 + ((optsPut p.opts).1.length + p.data.size) then ([], 503)
  else ([byteN p.code.toNat, byteN p.id.toNat, byteN ((4 + ((optsPut p.opts).1.length + p.data.size)) / 256), byteN (4 + ((optsPut p.opts).1.length + p.data.size))] ++ ((optsPut p.opts).1 ++ p.data.data.toList), 0)

theorem conf_any (x : Int) (w : World) : Calls Tryd.prog 36 #[.int .i64 x] w fun e w' => e = .returned (.bool (confB x)) ∧ w = w' := by
  by_cases h : 1 ≤ x
  · have hk := Lib.hid (show confB x = decide (x ≤ 4) by simp [confB, h])
    go_enter Tryd.func36, Tryd.ntmps36
    go_wp2
    go_ret
    exact ⟨by rw [hk.out]; rfl, rfl⟩
  · have hd : decide (1 ≤ x) = false := by simpa using h
    have hk := Lib.hid (show confB x = false by simp [confB, hd])
    go_enter Tryd.func36, Tryd.ntmps36
    go_wp2
    go_ret
    exact ⟨by rw [hk.out]; rfl, rfl⟩
theorem octet_any (x : Int) (w : World) : Calls Tryd.prog 37 #[.int .i64 x] w fun e w' => e = .returned (.bool (octetB x)) ∧ w = w' := by
  by_cases h : 0 ≤ x
  · have hk := Lib.hid (show octetB x = decide (x ≤ 255) by simp [octetB, h])
    go_enter Tryd.func37, Tryd.ntmps37
    go_wp2
    go_ret
    exact ⟨by rw [hk.out]; rfl, rfl⟩
  · have hd : decide (0 ≤ x) = false := by simpa using h
    have hk := Lib.hid (show octetB x = false by simp [octetB, hd])
    go_enter Tryd.func37, Tryd.ntmps37
    go_wp2
    go_ret
    exact ⟨by rw [hk.out]; rfl, rfl⟩

theorem optsPut_len (os : List OptD) : (optsPut os).1.length ≤ 2048 := by
  have key : ∀ (os : List OptD) (acc l : List UInt8), acc.length ≤ 2048 → putGo acc os = some l → l.length ≤ 2048 := by
    intro os
    induction os with
    | nil => intro acc l h hp; simp only [putGo] at hp; injection hp with hp; rw [← hp]; exact h
    | cons o os ih =>
      intro acc l h hp
      simp only [putGo] at hp
      split at hp
      · rename_i hf
        simp only [putFits, Bool.and_eq_true, decide_eq_true_eq] at hf
        exact ih _ _ (by rw [List.length_append, optBytes_length]; omega) hp
      · cases hp
  unfold optsPut
  split
  · simp
  · split
    · rename_i l hl; exact key os [] l (by simp) hl
    · simp

theorem byteN_eq {a b : Nat} (h : a % 256 = b % 256) : byteN a = byteN b := by
  unfold byteN
  apply UInt8.toNat_inj.1
  rw [UInt8.toNat_ofNat', UInt8.toNat_ofNat']
  exact h
theorem conv_four (a b c d : Int) (a0 : 0 ≤ a) (a1 : a ≤ 255) (b0 : 0 ≤ b) (b1 : b ≤ 255) (c0 : 0 ≤ c) (c1 : c ≤ 255) (d0 : 0 ≤ d) (d1 : d ≤ 255) (w : World) :
    (convert 77 9 (.slice (some ⟨w.heap.size, 0, none⟩) 4 4)).run Tryd.prog (w.alloc (.cells #[.int .u8 a, .int .u8 b, .int .u8 c, .int .u8 d] 5)) =
      .ok (.string ⟨#[byteN a.toNat, byteN b.toNat, byteN c.toNat, byteN d.toNat]⟩) (w.alloc (.cells #[.int .u8 a, .int .u8 b, .int .u8 c, .int .u8 d] 5)) := by
  refine run_convert_bytes_back _ _ _ 5 _ 4 [byteN a.toNat, byteN b.toNat, byteN c.toNat, byteN d.toNat] Tryd.underlying77 Tryd.underlying5 Tryd.underlying9 fun j hj => ?_
  have hb := Blk.cell (Blk.new w 5 #[.int .u8 a, .int .u8 b, .int .u8 c, .int .u8 d]) j
  have ha : (⟨w.heap.size, 0, none⟩ : Addr).add j = ⟨w.heap.size, j, none⟩ := by unfold Addr.add; split <;> simp_all
  rw [ha, hb]
  match j, hj with
  | 0, _ => simp [byteN]; omega
  | 1, _ => simp [byteN]; omega
  | 2, _ => simp [byteN]; omega
  | 3, _ => simp [byteN]; omega
theorem put_string (a b c d : UInt8) (l : List UInt8) (data : ByteArray) : (⟨#[a, b, c, d]⟩ ++ (⟨l.toArray⟩ ++ data) : ByteArray) = ⟨([a, b, c, d] ++ (l ++ data.data.toList)).toArray⟩ := by
  apply ByteArray.ext
  simp [ByteArray.data_append]

set_option maxRecDepth 100000 in
set_option maxHeartbeats 4000000 in
theorem controlPut_any (p : PackD) (A : Option Addr) (n c : Nat) (w : World) (hr : Reads w w.heap.size 2 A n (optCells p.opts)) (hn : p.opts.length = n) (hn2 : n ≤ 9223372036854775806)
    (hd : ∀ o ∈ p.opts, o.data.size ≤ 140737488351232) (hpd : p.data.size ≤ 140737488351232) :
    Calls Tryd.prog 27 #[.agg #[.int .i64 p.code, .int .i64 p.id, .slice A n c, .string p.data]] w fun e w' =>
      e = .returned (.tuple #[.string ⟨(controlPut p).1.toArray⟩, .int .i64 (controlPut p).2]) ∧ Below w.heap.size w w' := by
  have HP := Lib.hid (optsPut_any p.opts A n c (w.alloc (.cells #[.int .i64 p.code, .int .i64 p.id, .slice A n c, .string p.data] 41)) ((hr.alloc (Nat.le_refl _) _).more (by simp)) hn hn2 hd)
  have hlen := optsPut_len p.opts
  obtain ⟨code, id, opts, data⟩ := p
  simp only at HP hlen hpd hn ⊢
  obtain ⟨R, hR⟩ : ∃ R, controlPut ⟨code, id, opts, data⟩ = R := ⟨_, rfl⟩
  rw [hR]
  unfold controlPut at hR
  simp only at hR
  generalize optsPut opts = S at *
  obtain ⟨L, er⟩ := S
  simp only at HP hlen hR
  rw [hn] at hR
  have HN := Lib.hid hR
  clear hr hd hn hR
  go_enter Tryd.func27, Tryd.ntmps27
  go_wp2_with (first | (go_at_call 35; refine HP.out.mono ?_; rintro e w1 ⟨rfl, hb1⟩; have hk1 := Blk.below (Blk.new w 41 #[.int .i64 code, .int .i64 id, .slice A n c, .string data]) hb1 (by simp); have q0 : w1.cell? ⟨w.heap.size, 0, none⟩ = some (.int .i64 code) := hk1.cell 0; have q1 : w1.cell? ⟨w.heap.size, 1, none⟩ = some (.int .i64 id) := hk1.cell 1; have q2 : w1.cell? ⟨w.heap.size, 2, none⟩ = some (.slice A n c) := hk1.cell 2; have q3 : w1.cell? ⟨w.heap.size, 3, none⟩ = some (.string data) := hk1.cell 3; have HB1 := Lib.hid (below_trans' ((Below.refl _ _).alloc (Nat.le_refl w.heap.size) (.cells #[.int .i64 code, .int .i64 id, .slice A n c, .string data] 41)) (by simp) hb1); have hzz : w.heap.size < w1.heap.size := Blk.lt hk1; clear hb1 hk1) | (go_at_call 36; refine (conf_any _ _).mono ?_; rintro e w' ⟨rfl, rfl⟩) | (go_at_call 37; refine (octet_any _ _).mono ?_; rintro e w' ⟨rfl, rfl⟩))
  all_goals (first
    | (go_ret2
       first
       | (have e : R = ([], 501) := by rw [← HN.out]; clear HP HN HB1 q0 q1 q2 q3; simp_all
          exact ⟨by rw [e]; rfl, HB1.out⟩)
       | (have e : R = ([], 502) := by rw [← HN.out]; clear HP HN HB1 q0 q1 q2 q3; simp_all; try omega
          exact ⟨by rw [e]; rfl, HB1.out⟩)
       | (have e : R = ([], 503) := by rw [← HN.out]; clear HP HN HB1 q0 q1 q2 q3; simp_all; try omega
          exact ⟨by rw [e]; rfl, HB1.out⟩))
    | skip)
  all_goals
    have hoc : octetB code = true := by assumption
    have hoi : (!octetB id) = false := by assumption
    have hlo : 4 + ((L.length : Int) + data.size) ≤ 2048 := by assumption
    have hc2 : 0 ≤ code ∧ code ≤ 255 := by simpa [octetB] using hoc
    have hi2 : 0 ≤ id ∧ id ≤ 255 := by simpa [octetB] using hoi
    have e : R = ([byteN code.toNat, byteN id.toNat, byteN ((4 + (L.length + data.size)) / 256), byteN (4 + (L.length + data.size))] ++ (L ++ data.data.toList), 0) := by
      rw [← HN.out]; clear HP HN HB1 q0 q1 q2 q3
      rw [if_neg (by rw [hoc, hoi]; decide), if_neg (by simp_all), if_neg (by omega)]
    rw [conv_four _ _ _ _ (by omega) (by omega) (by omega) (by omega) (by omega) (by omega) (by omega) (by omega)]
    simp only [Result.andThen]
    rw [Oper.upon_value]
    have e0 := byteN_eq (a := (code % 256).toNat) (b := code.toNat) (by omega)
    have e1 := byteN_eq (a := (id % 256).toNat) (b := id.toNat) (by omega)
    have e2 := byteN_eq (a := ((4 + ((L.length : Int) + data.size)) / 256).toNat) (b := (4 + (L.length + data.size)) / 256) (by omega)
    have e3 := byteN_eq (a := ((4 + ((L.length : Int) + data.size)) % 256).toNat) (b := 4 + (L.length + data.size)) (by omega)
    rw [e0, e1, e2, e3]
    clear e0 e1 e2 e3
    have HE := Lib.hid e
    clear e
    go_wp2
    go_ret2
    exact ⟨by rw [HE.out, ← put_string]; rfl, HB1.out.alloc HB1.out.size _⟩
end Go.Proofs.YthlfghheciamcaaDoor
