/-
  The contracts of SamePacket and SamePackets.
  Conditions: the rows are readable.
-/
import Derived.Test.YthlfghheciamcaaDoorY4
namespace Go.Proofs.YthlfghheciamcaaDoor
open Go.RowKit Go.Joins Go.ChangeShapes Go.WideShapes Go.Deep Go.ChangeAt
set_option linter.unusedVariables false

def packEqB (p q : PackD) : Bool := p.code == q.code && (p.id == q.id && (p.data.toList == q.data.toList && decide (p.opts = q.opts)))
theorem packEqB_iff (p q : PackD) : packEqB p q = true ↔ p = q := by
  obtain ⟨p0, p1, p2, p3⟩ := p
  obtain ⟨q0, q1, q2, q3⟩ := q
  simp only [packEqB, Bool.and_eq_true, beq_iff_eq, decide_eq_true_eq, PackD.mk.injEq]
  rw [show (p3.toList = q3.toList) ↔ p3 = q3 by
    have := bytes_eq p3 q3
    rw [Bool.eq_iff_iff] at this
    simpa using this]
  exact ⟨fun ⟨a, b, c, d⟩ => ⟨a, b, d, c⟩, fun ⟨a, b, c, d⟩ => ⟨a, b, d, c⟩⟩
/-- one after the other, the same -/
def packsEqB (ps qs : List PackD) : Bool := ps.length == qs.length && (ps.zip qs).all fun x => packEqB x.1 x.2
theorem packsEqB_self (ps : List PackD) : packsEqB ps ps = true := by
  unfold packsEqB
  simp only [beq_self_eq_true, Bool.true_and, List.all_eq_true]
  intro x hx
  rw [packEqB_iff]
  have : ∀ (l : List PackD) (x : PackD × PackD), x ∈ l.zip l → x.1 = x.2 := by
    intro l
    induction l with
    | nil => intro x hx; simp at hx
    | cons a l ih =>
      intro x hx
      simp only [List.zip_cons_cons, List.mem_cons] at hx
      rcases hx with rfl | hx
      · rfl
      · exact ih x hx
  exact this ps x hx

set_option maxRecDepth 100000 in
set_option maxHeartbeats 4000000 in
theorem samePacket_any (p q : PackD) (A B : Option Addr) (c d : Nat) (w : World) (hr : Reads w w.heap.size 2 A p.opts.length (optCells p.opts)) (hn : p.opts.length ≤ 9223372036854775806)
    (hr2 : Reads w w.heap.size 2 B q.opts.length (optCells q.opts)) (hm : q.opts.length ≤ 9223372036854775806) :
    Calls Tryd.prog 30 #[.agg #[.int .i64 p.code, .int .i64 p.id, .slice A p.opts.length c, .string p.data], .agg #[.int .i64 q.code, .int .i64 q.id, .slice B q.opts.length d, .string q.data]] w fun e w' =>
      e = .returned (.bool (packEqB p q)) ∧ Below w.heap.size w w' := by
  have hb0 := (((Below.refl w.heap.size w).alloc (Nat.le_refl _) (.cells #[.int .i64 p.code, .int .i64 p.id, .slice A p.opts.length c, .string p.data] 41)).alloc (by simp) (.cells #[.int .i64 q.code, .int .i64 q.id, .slice B q.opts.length d, .string q.data] 41))
  have HB := Lib.hid hb0
  have HS := Lib.hid (same_any p.opts q.opts A B _ _ c d _ ((hr.below hb0).more hb0.size) rfl hn ((hr2.below hb0).more hb0.size) rfl hm)
  clear hb0
  unfold packEqB
  rcases hc : (p.code == q.code) with _ | _
  · go_enter Tryd.func30, Tryd.ntmps30
    go_wp2_with fail
    go_ret
    exact ⟨rfl, HB.out⟩
  rcases hi : (p.id == q.id) with _ | _
  · go_enter Tryd.func30, Tryd.ntmps30
    go_wp2_with fail
    go_ret
    exact ⟨rfl, HB.out⟩
  rcases hd : (p.data.toList == q.data.toList) with _ | _
  · go_enter Tryd.func30, Tryd.ntmps30
    go_wp2_with fail
    go_ret
    exact ⟨rfl, HB.out⟩
  · go_enter Tryd.func30, Tryd.ntmps30
    go_wp2_with fail
    refine HS.out.mono ?_
    rintro e w1 ⟨rfl, hb1⟩
    have HB1 := Lib.hid (below_trans' HB.out HB.out.size hb1)
    clear hb1
    go_wp2_with fail
    go_ret
    exact ⟨by simp, HB1.out⟩

/-- a row of packets that can be read -/
structure PackR (w : World) (A : Option Addr) (n : Nat) (l : List (PackD × Value)) : Prop where
  len : l.length = n
  row : Reads w w.heap.size 4 A n (packCells l)
  rows : ∀ x ∈ l, x.1.opts.length ≤ 9223372036854775806 ∧ ∃ B d, x.2 = .slice B x.1.opts.length d ∧ Reads w w.heap.size 2 B x.1.opts.length (optCells x.1.opts)
theorem PackR.below {w w' : World} {A : Option Addr} {n : Nat} {l : List (PackD × Value)} (h : PackR w A n l) (hb : Below w.heap.size w w') : PackR w' A n l :=
  ⟨h.len, (h.row.below hb).more hb.size, fun x hx => by
    obtain ⟨h1, B, d, e, hr⟩ := h.rows x hx
    exact ⟨h1, B, d, e, (hr.below hb).more hb.size⟩⟩
theorem PackR.at_ {w : World} {A : Option Addr} {n : Nat} {l : List (PackD × Value)} (h : PackR w A n l) (k : Nat) (hk : k < l.length) : ∃ ad B d, A = some ad ∧ PackK w ad k (l[k]'hk).1 B d ∧ (l[k]'hk).1.opts.length ≤ 9223372036854775806 := by
  obtain ⟨ad, hA, hbl, hx⟩ := h.row.2 (by have := h.len; omega)
  subst hA
  obtain ⟨x0, x1, x2, x3⟩ := packCells_at l k hk
  obtain ⟨h1, B, d, eB, hr⟩ := h.rows _ (List.getElem_mem hk)
  rw [eB] at x2
  refine ⟨ad, B, d, rfl, ⟨hx _ _ x0, ?_, ?_, ?_, hr⟩, h1⟩
  · rw [← add_field ad (k * 4) 1 (by omega)]; exact hx _ _ x1
  · rw [← add_field ad (k * 4) 2 (by omega)]; exact hx _ _ x2
  · rw [← add_field ad (k * 4) 3 (by omega)]; exact hx _ _ x3
theorem PacksIn.r {w : World} {base m c : Nat} {A : Option Addr} {nv : Value} {l : List (PackD × Value)} (h : PacksIn w base (.slice A m c) nv l) (hl : ∀ x ∈ l, x.1.opts.length ≤ 9223372036854775806) : PackR w A m l := by
  obtain ⟨A', c', e, _, _, _⟩ := own_shape h.row
  injection e with e1 e2 e3
  subst e1 e2 e3
  exact ⟨rfl, Reads.of_own h.row, fun x hx => by
    obtain ⟨B, d, eB, _⟩ := own_shape (h.rows x hx)
    have hr := h.rows x hx
    rw [eB] at hr
    exact ⟨hl x hx, B, d, eB, Reads.of_own hr⟩⟩

theorem zip_take_all (ps qs : List PackD) (k : Nat) (h1 : k < ps.length) (h2 : k < qs.length) : (((ps.take (k + 1)).zip (qs.take (k + 1))).all fun x => packEqB x.1 x.2) = (((ps.take k).zip (qs.take k)).all (fun x => packEqB x.1 x.2) && packEqB (ps[k]'h1) (qs[k]'h2)) := by
  rw [show ps.take (k + 1) = ps.take k ++ [ps[k]'h1] by rw [List.take_add_one, List.getElem?_eq_getElem h1]; rfl, show qs.take (k + 1) = qs.take k ++ [qs[k]'h2] by rw [List.take_add_one, List.getElem?_eq_getElem h2]; rfl]
  rw [List.zip_append (by simp; omega)]
  simp
theorem zip_some_false (ps qs : List PackD) (k : Nat) (h1 : k < ps.length) (h2 : k < qs.length) (h : packEqB (ps[k]'h1) (qs[k]'h2) = false) : packsEqB ps qs = false := by
  unfold packsEqB
  have : ((ps.zip qs).all fun x => packEqB x.1 x.2) = false := by
    rw [List.all_eq_false]
    refine ⟨(ps[k]'h1, qs[k]'h2), ?_, by simp [h]⟩
    rw [List.mem_iff_getElem]
    exact ⟨k, by simp; omega, by simp⟩
  rw [this]; simp

set_option maxRecDepth 100000 in
set_option maxHeartbeats 4000000 in
theorem samePackets_any (l r : List (PackD × Value)) (A B : Option Addr) (n m c d : Nat) (w : World) (h : PackR w A n l) (h2 : PackR w B m r) (hn : n ≤ 9223372036854775806) :
    Calls Tryd.prog 19 #[.slice A n c, .slice B m d] w fun e w' => e = .returned (.bool (packsEqB (l.map Prod.fst) (r.map Prod.fst))) ∧ Below w.heap.size w w' := by
  have H := Lib.hid h
  have H2 := Lib.hid h2
  have hl := h.len
  have hl2 := h2.len
  clear h h2
  rcases hnm : ((n : Int) != (m : Int)) with _ | _
  · have hnm' : n = m := by have := bne_eq_false_iff_eq.1 hnm; omega
    subst hnm'
    go_enter Tryd.func19, Tryd.ntmps19
    go_wp2_with fail
    go_loopw [4, 5] (fun t i wr => ∃ k : Nat, k ≤ n ∧ i = .int .i64 k ∧ t = .bool false ∧ ((((l.map Prod.fst).take k).zip ((r.map Prod.fst).take k)).all fun x => packEqB x.1 x.2) = true ∧ Below w.heap.size w wr) (fun _ i _ => n - (intOf i).toNat)
    case atStart => exact ⟨0, Nat.zero_le _, rfl, rfl, by simp, Below.refl _ _⟩
    case round =>
      obtain ⟨k, hk, rfl, rfl, ht, hb⟩ := hrel
      have HT := Lib.hid ht
      have HB := Lib.hid hb
      clear ht hb
      by_cases hlt : k < n
      · obtain ⟨ad, Bk, dk, hA, hPK, hz⟩ := (H.out.below HB.out).at_ k (by omega)
        obtain ⟨bd, Bj, dj, hA2, hPJ, hz2⟩ := (H2.out.below HB.out).at_ k (by omega)
        subst hA hA2
        have ha := zip_take_all (l.map Prod.fst) (r.map Prod.fst) k (by simp; omega) (by simp; omega)
        have hf := zip_some_false (l.map Prod.fst) (r.map Prod.fst) k (by simp; omega) (by simp; omega)
        simp only [List.getElem_map] at ha hf
        generalize (l[k]'(by omega)).1 = p at hPK hz ha hf
        generalize (r[k]'(by omega)).1 = q at hPJ hz2 ha hf
        have HAL := Lib.hid ha
        have HF := Lib.hid hf
        have HP := Lib.hid hPK
        have HJ := Lib.hid hPJ
        clear ha hf
        have n0 := Near.cell hPK.c0
        have n1 := Near.cell hPK.c1
        have n2 := Near.cell hPK.c2
        have n3 := Near.cell hPK.c3
        have m0 := Near.cell hPJ.c0
        have m1 := Near.cell hPJ.c1
        have m2 := Near.cell hPJ.c2
        have m3 := Near.cell hPJ.c3
        clear hPK hPJ
        have hsp : ∀ z : Near wr, Calls Tryd.prog 30 #[.agg #[.int .i64 p.code, .int .i64 p.id, .slice Bk p.opts.length dk, .string p.data], .agg #[.int .i64 q.code, .int .i64 q.id, .slice Bj q.opts.length dj, .string q.data]] z.v fun e w' =>
            e = .returned (.bool (packEqB p q)) ∧ Below z.v.heap.size z.v w' := fun z => samePacket_any p q Bk Bj dk dj z.v ((HP.out.reads.below z.below).more z.below.size) hz ((HJ.out.reads.below z.below).more z.below.size) hz2
        have HSP := Lib.hid hsp
        clear hsp
        rcases hq : packEqB p q with _ | _
        · rw [hq] at HSP HAL
          have HF2 := Lib.hid (HF.out hq)
          clear hq HF
          go_wp2_with fail
          refine wp_region_near (by kernel_rfl) (by kernel_rfl) ?_
          repeat (go_big_quiet_step ((go_at_call 30; exact near_of (HSP.out _))))
          refine wpQuiet_nil ?_
          intro z
          clear n0 n1 n2 n3 m0 m1 m2 m3
          go_wp2_with fail
          go_ret
          exact ⟨ret_bool (by simp [HF2.out]), below_trans' HB.out HB.out.size z.below⟩
        · rw [hq] at HSP HAL
          clear hq HF
          go_wp2_with fail
          refine wp_region_near (by kernel_rfl) (by kernel_rfl) ?_
          repeat (go_big_quiet_step ((go_at_call 30; exact near_of (HSP.out _))))
          refine wpQuiet_nil ?_
          intro z
          clear n0 n1 n2 n3 m0 m1 m2 m3
          go_wp2_with fail
          go_roundw
          case rel => exact ⟨k + 1, by omega, by go_num, rfl, by rw [HAL.out, HT.out]; rfl, below_trans' HB.out HB.out.size z.below⟩
          case measure => simp [intOf]; omega
      · obtain rfl : k = n := by omega
        go_wp2_with fail
        go_ret
        refine ⟨ret_bool ?_, HB.out⟩
        have := HT.out
        rw [List.take_of_length_le (by simp; omega), List.take_of_length_le (by simp; omega)] at this
        unfold packsEqB
        rw [this]
        simp; omega
  · have HN := Lib.hid (show packsEqB (l.map Prod.fst) (r.map Prod.fst) = false by
      unfold packsEqB
      simp only [List.length_map, hl, hl2]
      have : (n == m) = false := beq_eq_false_iff_ne.2 (fun e => by subst e; simp at hnm)
      rw [this]; rfl)
    go_enter Tryd.func19, Tryd.ntmps19
    go_wp2_with fail
    go_ret
    exact ⟨ret_bool (by simp [HN.out]), Below.refl _ _⟩
end Go.Proofs.YthlfghheciamcaaDoor
