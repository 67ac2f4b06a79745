/-
  Contracts, fourth part: an error's number; options held against options; links held against links.
  Conditions: as each states.
-/
import Derived.Test.YthlfghheciamcaaDoorK3
import Derived.Laws.StructEq
namespace Go.Proofs.YthlfghheciamcaaDoor
open Go.RowKit
set_option linter.unusedVariables false

theorem num_any (e : Int) (w : World) : Calls Tryd.prog 13 #[.int .i64 e] w fun r w' => r = .returned (.int .i64 e) ∧ w = w' := by
  go_enter Tryd.func13, Tryd.ntmps13
  go_wp2
  go_ret
  exact ⟨rfl, rfl⟩

section
variable {P : Program} {d : Nat} {xs ys : Array Value} {f : Field} {fs : List Field} {a b : Value} {r s : Bool} {w : World}
theorem eqf_cons (hn : (f.name == "_") = false) (ha : (part f.type xs f.offset).run P w = .ok a w) (hb : (part f.type ys f.offset).run P w = .ok b w) (he : (Op.equalIn d f.type a b).run P w = .ok r w) (hr : (Op.eqFields d xs ys fs).run P w = .ok s w) : (Op.eqFields d xs ys (f :: fs)).run P w = .ok (r && s) w := by
  have hn' : f.name ≠ "_" := by simpa using hn
  rw [Op.eqFields]
  simp only [if_pos hn', Sem.run_bind, ha, hb, he, Result.andThen_ok]
  cases r
  · simp
  · simpa using hr
theorem eqf_nil : (Op.eqFields d xs ys []).run P w = .ok true w := by simp [Op.eqFields]
theorem eqA_of {t : TypeId} {fs : Array Field} (hu : P.underlying t = some (.struct fs)) (hp : P.stoodInHeld t = false) (h : (Op.eqFields d xs ys fs.toList).run P w = .ok r w) : (Op.equalIn (d + 1) t (.agg xs) (.agg ys)).run P w = .ok r w := by
  have hf : P.fieldsOf t = fs := by simp [Program.fieldsOf, hu]
  rw [run_equalIn_struct (P := P) w d t xs ys (by rw [hf]; exact hu) hp, hf]
  exact h
end

section
variable {P : Program} (d : Nat) {t : TypeId} (w : World)
theorem eqi_int {k : IntKind} (a b : Int) (h : P.underlying t = some (.int k)) : (Op.equalIn (d + 1) t (.int k a) (.int k b)).run P w = .ok (a == b) w := by
  simp [Op.equalIn, run_underlying h]
theorem eqi_string (a b : ByteArray) (h : P.underlying t = some .string) : (Op.equalIn (d + 1) t (.string a) (.string b)).run P w = .ok (a.toList == b.toList) w := by
  simp [Op.equalIn, run_underlying h, beq_toListBytes]
theorem eqi_bool (a b : Bool) (h : P.underlying t = some .bool) : (Op.equalIn (d + 1) t (.bool a) (.bool b)).run P w = .ok (a == b) w := by
  simp [Op.equalIn, run_underlying h]
end

def OptD.eqB (a b : OptD) : Bool := a.kind == b.kind && (a.data.toList == b.data.toList && true)
def LinkD.eqB (a b : LinkD) : Bool := a.mru == b.mru && (a.magic == b.magic && (a.mrru == b.mrru && (a.short == b.short && (a.disc.toList == b.disc.toList && (a.num == b.num && true)))))

theorem opt_in (d : Nat) (k1 k2 : Int) (d1 d2 : ByteArray) (w : World) : (Op.equalIn (d + 2) 79 (.agg #[.int .i64 k1, .string d1]) (.agg #[.int .i64 k2, .string d2])).run Tryd.prog w = .ok (k1 == k2 && (d1.toList == d2.toList && true)) w := by
  refine eqA_of Tryd.underlying79 (by kernel_rfl) ?_
  refine eqf_cons (by kernel_rfl) (a := .int .i64 k1) (b := .int .i64 k2) (by kernel_rfl) (by kernel_rfl) (eqi_int d w _ _ Tryd.underlying3) ?_
  refine eqf_cons (by kernel_rfl) (a := .string d1) (b := .string d2) (by kernel_rfl) (by kernel_rfl) (eqi_string d w _ _ Tryd.underlying9) ?_
  exact eqf_nil
theorem link_in (d : Nat) (a b : LinkD) (w : World) : (Op.equalIn (d + 2) 23 (.agg a.cells) (.agg b.cells)).run Tryd.prog w = .ok (a.eqB b) w := by
  obtain ⟨a0, a1, a2, a3, a4, a5⟩ := a
  obtain ⟨b0, b1, b2, b3, b4, b5⟩ := b
  refine eqA_of Tryd.underlying23 (by kernel_rfl) ?_
  refine eqf_cons (by kernel_rfl) (a := .int .i64 a0) (b := .int .i64 b0) (by kernel_rfl) (by kernel_rfl) (eqi_int d w _ _ Tryd.underlying3) ?_
  refine eqf_cons (by kernel_rfl) (a := .int .i64 a1) (b := .int .i64 b1) (by kernel_rfl) (by kernel_rfl) (eqi_int d w _ _ Tryd.underlying3) ?_
  refine eqf_cons (by kernel_rfl) (a := .int .i64 a2) (b := .int .i64 b2) (by kernel_rfl) (by kernel_rfl) (eqi_int d w _ _ Tryd.underlying3) ?_
  refine eqf_cons (by kernel_rfl) (a := .bool a3) (b := .bool b3) (by kernel_rfl) (by kernel_rfl) (eqi_bool d w _ _ Tryd.underlying4) ?_
  refine eqf_cons (by kernel_rfl) (a := .string a4) (b := .string b4) (by kernel_rfl) (by kernel_rfl) (eqi_string d w _ _ Tryd.underlying9) ?_
  refine eqf_cons (by kernel_rfl) (a := .int .i64 a5) (b := .int .i64 b5) (by kernel_rfl) (by kernel_rfl) (eqi_int d w _ _ Tryd.underlying3) ?_
  exact eqf_nil
theorem maxDepth_two : Op.maxDepth = 9998 + 2 := rfl
theorem opt_eql (k1 k2 : Int) (d1 d2 : ByteArray) (w : World) :
    (binOp .eql 79 (.agg #[.int .i64 k1, .string d1]) (.agg #[.int .i64 k2, .string d2])).run Tryd.prog w = .ok (.bool (OptD.eqB ⟨k1, d1⟩ ⟨k2, d2⟩)) w := by
  simp only [binOp, Op.equal, maxDepth_two, Sem.run_bind, opt_in, Result.andThen_ok]
  rfl
theorem opt_neq (k1 k2 : Int) (d1 d2 : ByteArray) (w : World) :
    (binOp .neq 79 (.agg #[.int .i64 k1, .string d1]) (.agg #[.int .i64 k2, .string d2])).run Tryd.prog w = .ok (.bool (!OptD.eqB ⟨k1, d1⟩ ⟨k2, d2⟩)) w := by
  simp only [binOp, Op.equal, maxDepth_two, Sem.run_bind, opt_in, Result.andThen_ok]
  rfl
theorem link_eql (a b : LinkD) (w : World) : (binOp .eql 23 (.agg #[.int .i64 a.mru, .int .i64 a.magic, .int .i64 a.mrru, .bool a.short, .string a.disc, .int .i64 a.num]) (.agg #[.int .i64 b.mru, .int .i64 b.magic, .int .i64 b.mrru, .bool b.short, .string b.disc, .int .i64 b.num])).run Tryd.prog w = .ok (.bool (a.eqB b)) w := by
  have := link_in 9998 a b w
  simp only [LinkD.cells] at this
  simp only [binOp, Op.equal, maxDepth_two, Sem.run_bind, this, Result.andThen_ok]
  rfl
theorem link_neq (a b : LinkD) (w : World) : (binOp .neq 23 (.agg #[.int .i64 a.mru, .int .i64 a.magic, .int .i64 a.mrru, .bool a.short, .string a.disc, .int .i64 a.num]) (.agg #[.int .i64 b.mru, .int .i64 b.magic, .int .i64 b.mrru, .bool b.short, .string b.disc, .int .i64 b.num])).run Tryd.prog w = .ok (.bool (!a.eqB b)) w := by
  have := link_in 9998 a b w
  simp only [LinkD.cells] at this
  simp only [binOp, Op.equal, maxDepth_two, Sem.run_bind, this, Result.andThen_ok]
  rfl
theorem bytes_eq (a b : ByteArray) : (a.toList == b.toList) = decide (a = b) := by
  rw [ByteArray.toList_eq, ByteArray.toList_eq]
  obtain ⟨⟨x⟩⟩ := a
  obtain ⟨⟨y⟩⟩ := b
  rw [Bool.eq_iff_iff]
  simp
theorem OptD.eqB_iff (a b : OptD) : a.eqB b = decide (a = b) := by
  obtain ⟨k, d⟩ := a; obtain ⟨k', d'⟩ := b
  rw [Bool.eq_iff_iff]; simp [OptD.eqB, bytes_eq]
theorem LinkD.eqB_iff (a b : LinkD) : a.eqB b = decide (a = b) := by
  obtain ⟨a0, a1, a2, a3, a4, a5⟩ := a; obtain ⟨b0, b1, b2, b3, b4, b5⟩ := b
  rw [Bool.eq_iff_iff]; simp [LinkD.eqB, bytes_eq]

theorem same_any (os ps : List OptD) (A B : Option Addr) (n m c d : Nat) (w : World) (hr : Reads w w.heap.size 2 A n (optCells os)) (hn : os.length = n) (hn2 : n ≤ 9223372036854775806)
    (hr2 : Reads w w.heap.size 2 B m (optCells ps)) (hm : ps.length = m) (hm2 : m ≤ 9223372036854775806) :
    Calls Tryd.prog 42 #[.slice A n c, .slice B m d] w fun e w' => e = .returned (.bool (decide (os = ps))) ∧ Below w.heap.size w w' := by
  rcases hnm : ((n : Int) != (m : Int)) with _ | _
  · have hnm' : n = m := by have := bne_eq_false_iff_eq.1 hnm; omega
    subst hnm'
    go_enter Tryd.func42, Tryd.ntmps42
    go_wp2
    go_loopw [4, 5] (fun r i wr => ∃ k : Nat, k ≤ n ∧ i = .int .i64 k ∧ r = .bool false ∧ os.take k = ps.take k ∧ Below w.heap.size w wr) (fun _ i _ => n - (intOf i).toNat)
    case atStart => exact ⟨0, Nat.zero_le _, rfl, rfl, by simp, Below.refl _ _⟩
    case round =>
      obtain ⟨k, hk, rfl, rfl, ht, hb⟩ := hrel
      have HT := Lib.hid ht
      clear ht
      by_cases hlt : k < n
      · obtain ⟨ad, rfl, hbl, hk0, hk1⟩ := opt_at hr hb k (by omega) hn
        obtain ⟨be, rfl, hbl2, hk2, hk3⟩ := opt_at hr2 hb k (by omega) hm
        have HS := Lib.hid (show os.take (k + 1) = os.take k ++ [os[k]'(by omega)] from by rw [List.take_add_one, List.getElem?_eq_getElem (by omega)]; rfl)
        have HS2 := Lib.hid (show ps.take (k + 1) = ps.take k ++ [ps[k]'(by omega)] from by rw [List.take_add_one, List.getElem?_eq_getElem (by omega)]; rfl)
        have HD := Lib.hid (show os[k]'(by omega) ≠ ps[k]'(by omega) → os ≠ ps from fun h e => h (by subst e; rfl))
        generalize os[k]'(by omega) = o at hk0 hk1 HS HD
        generalize ps[k]'(by omega) = p at hk2 hk3 HS2 HD
        have hne : ∀ w, (binOp .neq 79 (.agg #[.int .i64 o.kind, .string o.data]) (.agg #[.int .i64 p.kind, .string p.data])).run Tryd.prog w = .ok (.bool (!o.eqB p)) w := opt_neq o.kind p.kind o.data p.data
        rcases hq : o.eqB p with _ | _
        · have HD2 := Lib.hid (HD.out (by rw [OptD.eqB_iff] at hq; exact of_decide_eq_false hq))
          clear HD HS HS2 HT
          go_wp2_with fail
          go_quiet (fail)
          go_wp2
          go_ret
          exact ⟨ret_bool (by simp [HD2.out]), below_drewN hb _⟩
        · have HD2 := Lib.hid (show o = p by rw [OptD.eqB_iff] at hq; exact of_decide_eq_true hq)
          clear HD
          go_wp2_with fail
          go_quiet (fail)
          go_wp2
          go_roundw
          case rel => exact ⟨k + 1, by omega, by go_num, rfl, by rw [HS.out, HS2.out, HT.out, HD2.out], below_drewN hb _⟩
          case measure => simp [intOf]; omega
      · obtain rfl : k = n := by omega
        go_wp2
        go_ret
        refine ⟨ret_bool ?_, hb⟩
        have := HT.out
        rw [List.take_of_length_le (by omega), List.take_of_length_le (by omega)] at this
        simp [this]
  · have hne : ¬ os = ps := fun h => by subst h; simp at hnm; omega
    have HN := Lib.hid hne
    clear hne
    go_enter Tryd.func42, Tryd.ntmps42
    go_wp2
    go_ret
    exact ⟨ret_bool (by simp [HN.out]), Below.refl _ _⟩
end Go.Proofs.YthlfghheciamcaaDoor
