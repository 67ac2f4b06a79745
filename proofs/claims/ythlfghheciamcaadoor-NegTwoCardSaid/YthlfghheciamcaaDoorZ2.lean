/-
  The contract of open: two sides that may settle come to be open.
  Conditions: both links may be asked for; magic numbers differ; internal/bytealg.MaxLen holds an int.
-/
import Derived.Test.YthlfghheciamcaaDoorZ1
namespace Go.Proofs.YthlfghheciamcaaDoor
open Go.RowKit Go.Joins Go.ChangeShapes Go.WideShapes Go.Deep Go.ChangeAt
set_option linter.unusedVariables false

def LinkD.agg (a : LinkD) : Value := .agg #[.int .i64 a.mru, .int .i64 a.magic, .int .i64 a.mrru, .bool a.short, .string a.disc, .int .i64 a.num]
/-- two sides, open -/
structure OpenTo (w : World) (a b : LinkD) (e : Ending) (w' : World) : Prop where
  out : ∃ gx tx vx x gy ty vy y, e = .returned (.tuple #[.pointer (some ⟨gx, 0, none⟩), .pointer (some ⟨gy, 0, none⟩), .bool true]) ∧ TwoAt w.heap.size w w' gx tx vx x gy ty vy y ∧ Opened x (meet a b) (meet b a) ∧ Opened y (meet b a) (meet a b)

theorem open_new (a : LinkD) : userDo (newD a 8) 2 = ({ newD a 8 with state := 1 }, [], 0) := do_open0 rfl
theorem up_new (a : LinkD) : userDo { newD a 8 with state := 1 } 0 = (askd a, [req1 a], 0) := (do_up1 rfl).trans rfl

set_option maxRecDepth 100000 in
set_option maxHeartbeats 8000000 in
theorem open_any (a b : LinkD) (w : World) (hm : HasMax w) (ha : a.may = true) (hb : b.may = true) (hab : magOk a b) (hba : magOk b a) :
    Calls Tryd.prog 17 #[.agg #[.int .i64 a.mru, .int .i64 a.magic, .int .i64 a.mrru, .bool a.short, .string a.disc, .int .i64 a.num], .agg #[.int .i64 b.mru, .int .i64 b.magic, .int .i64 b.mrru, .bool b.short, .string b.disc, .int .i64 b.num]] w fun e w' => OpenTo w a b e w' := by
  have HM := Lib.hid hm
  have HA := Lib.hid ha
  have HB := Lib.hid hb
  obtain ⟨S, R, hR, hS0, hox, hoy⟩ := runs_any ha hb hab hba
  have HR := Lib.hid hR
  have HS0 := Lib.hid hS0
  have HOX := Lib.hid hox
  have HOY := Lib.hid hoy
  clear hm ha hb hab hba hR hS0 hox hoy
  go_enter Tryd.func17, Tryd.ntmps17
  go_wp2_with fail
  refine (New_yes a 8 _ (by simp [newFits, HA.out])).mono ?_
  rintro e w1 ⟨gx, tx, vx, rfl, hn1, hb1, hg1⟩
  have hl1 : LinkAt w1 (w.heap.size + 1) b := by
    have := LinkAt.below (LinkAt.new (w.alloc (.cells a.cells 23)) b) hb1
    simpa using this
  have B1 := Lib.hid (below_trans' (((Below.refl w.heap.size w).alloc (Nat.le_refl _) (.cells a.cells 23)).alloc (by simp) (.cells b.cells 23)) (by simp; omega) hb1)
  have M1 := Lib.hid (HM.out.below B1.out HM.out.pos)
  have N1 := Lib.hid hn1
  have hx1 : w.heap.size ≤ gx := by simp at hg1; omega
  obtain ⟨c0, c1, c2, c3, c4, c5⟩ := hl1.cells
  clear hl1 hb1 hn1 hg1
  go_wp2_with fail
  refine (New_yes b 8 _ (by simp [newFits, HB.out])).mono ?_
  rintro e w2 ⟨gy, ty, vy, rfl, hn2, hb2, hg2⟩
  have hgl := N1.out.lt
  have T2 := Lib.hid (show TwoAt w.heap.size w w2 gx tx vx (newD a 8) gy ty vy (newD b 8) from ⟨N1.out.below hb2, hn2, by omega, M1.out.below hb2 M1.out.pos, below_trans' B1.out B1.out.size hb2, Nat.le_trans B1.out.size hb2.size, hx1, Nat.le_trans B1.out.size hg2⟩)
  clear hb2 hn2 hg2 hx1 hgl c0 c1 c2 c3 c4 c5 N1 B1 M1
  go_wp2_with (go_at_call 13; refine (num_any _ _).mono ?_; rintro e w' ⟨rfl, rfl⟩)
  have HDO := Lib.hid (Do_took gx tx vx (newD a 8) 2 _ T2.out.nx T2.out.max)
  rw [open_new] at HDO
  refine HDO.out.mono ?_
  clear HDO
  rintro e w3 ⟨⟨V3, v3, he, hn, hp⟩⟩
  simp only at he hn hp
  subst he
  have T3 := Lib.hid (T2.out.onX hn)
  clear hn hp T2
  go_wp2_with fail
  have HDO := Lib.hid (Do_took gy ty vy (newD b 8) 2 _ T3.out.ny T3.out.max)
  rw [open_new] at HDO
  refine HDO.out.mono ?_
  clear HDO
  rintro e w4 ⟨⟨V4, v4, he, hn, hp⟩⟩
  simp only at he hn hp
  subst he
  have T4 := Lib.hid (T3.out.onY hn)
  clear hn hp T3
  go_wp2_with fail
  have HDO := Lib.hid (Do_took gx tx v3 _ 0 _ T4.out.nx T4.out.max)
  rw [up_new] at HDO
  refine HDO.out.mono ?_
  clear HDO
  rintro e w5 ⟨⟨V5, v5, he, hn, hp⟩⟩
  simp only at he hn hp
  subst he
  have T5 := Lib.hid (T4.out.onX hn)
  have P5 := Lib.hid (hp.pk.base T4.out.bw)
  clear hn hp T4
  go_wp2_with fail
  have HDO := Lib.hid (Do_took gy ty v4 _ 0 _ T5.out.ny T5.out.max)
  rw [up_new] at HDO
  refine HDO.out.mono ?_
  clear HDO
  rintro e w6 ⟨⟨V6, v6, he, hn, hp⟩⟩
  simp only at he hn hp
  subst he
  have T6 := Lib.hid (T5.out.onY hn)
  have P6 := Lib.hid (P5.out.onY T5.out hn)
  have Q6 := Lib.hid (hp.pk.base T5.out.bw)
  clear hn hp T5 P5
  go_wp2_with fail
  go_loopw [11, 13, 15, 16, 17, 18, 19, 20, 21, 22, 23] (fun V U iv _ _ _ _ _ _ _ _ wr => ∃ (i : Nat) (vx vy : Value), i ≤ R ∧ iv = .int .i64 i ∧ TwoAt w.heap.size w wr gx tx vx (S i).x gy ty vy (S i).y ∧ Pk wr w.heap.size V (S i).toY ∧ Pk wr w.heap.size U (S i).toX)
    (fun _ _ iv _ _ _ _ _ _ _ _ _ => R - (intOf iv).toNat)
  case atStart => exact ⟨0, v5, v6, Nat.zero_le _, rfl, by rw [HS0.out]; exact T6.out, by rw [HS0.out]; exact P6.out, by rw [HS0.out]; exact Q6.out⟩
  case round =>
    obtain ⟨i, vx, vy, hi, rfl, ht, hp, hq⟩ := hrel
    have HT := Lib.hid ht
    have HP := Lib.hid hp
    have HQ := Lib.hid hq
    clear ht hp hq T6 P6 Q6
    by_cases hlt : i < R
    · have hsome := HR.out.some i hlt
      obtain ⟨Ap, cp, rfl, hcp⟩ := HP.out.shape
      obtain ⟨Aq, cq, rfl, hcq⟩ := HQ.out.shape
      have hlp := HR.out.lenY i (by omega)
      have hlq := HR.out.lenX i (by omega)
      have hstep := HR.out.stepY i hlt
      have hstep2 := HR.out.stepX i hlt
      have hln := HR.out.lenX (i + 1) (by omega)
      have hln2 := HR.out.lenY (i + 1) (by omega)
      have hfy := HR.out.fitY i (by omega)
      have hfx := HR.out.fitX i (by omega)
      have hmany := HR.out.many
      generalize hSi : S i = s at *
      generalize hSj : S (i + 1) = s' at *
      have HSi := Lib.hid hSi
      have HSj := Lib.hid hSj
      have HSTEP := Lib.hid hstep
      have HSTEP2 := Lib.hid hstep2
      have HFY := Lib.hid hfy
      have HFX := Lib.hid hfx
      clear hstep hstep2 hSi hSj hfy hfx
      obtain ⟨sx, sy, toX, toY⟩ := s
      simp only at HT HP HQ HSTEP HSTEP2 HFY HFX hsome hlp hlq hcp hcq
      have hi40 : (i : Int) < 40 := by omega
      have hpos : (0 : Int) < (toX.length : Int) + (toY.length : Int) := by omega
      go_wp2_with fail
      obtain ⟨wo, hwo⟩ : ∃ wo, wo = wr := ⟨_, rfl⟩
      subst hwo
      go_loopw [16, 18, 19, 20] (fun O kv _ _ wi => ∃ (k : Nat) (v' : Value) (l : List (PackD × Value)), k ≤ toY.length ∧ kv = .int .i64 k ∧ NegTo wo wi gy ty v' (takeAll sy (toY.take k)).1 ∧ l.map Prod.fst = (takeAll sy (toY.take k)).2 ∧ PacksIn wi wo.heap.size O nilS l)
        (fun _ kv _ _ _ => toY.length - (intOf kv).toNat)
      case atStart => exact ⟨0, vy, [], Nat.zero_le _, rfl, ⟨HT.out.ny, World.grownBy.refl _ _⟩, rfl, World.ownsRow_nil _ _ _ _, (fun _ h => by simp at h), fun _ h => by simp at h⟩
      case round =>
        obtain ⟨k, v', l, hk, rfl, hn, hl, hp⟩ := hrel
        have HN := Lib.hid hn
        have HL := Lib.hid hl
        have HO := Lib.hid hp
        clear hn hl hp
        have hz := HN.out.grown.size
        by_cases hk2 : k < toY.length
        · have PY := Lib.hid (HP.out.onY HT.out HN.out)
          obtain ⟨ad, Bk, d, hA, hPK⟩ := PY.out.at_ k hk2
          subst hA
          have ST := Lib.hid (takeAll_step sy toY k hk2)
          have LM := Lib.hid (takeAll_len sy toY (k + 1))
          have hfit := HFY.out _ (List.getElem_mem hk2)
          generalize toY[k]'hk2 = p at *
          have HPK := Lib.hid hPK
          obtain ⟨c0, c1, c2, c3, -⟩ := hPK
          obtain ⟨Ao, co, rfl, hco, _, _⟩ := own_shape HO.out.row
          generalize takeAll sy (toY.take k) = q at HN HL ST
          obtain ⟨q1, q2⟩ := q
          simp only at HN HL ST
          go_wp2_with fail
          clear c0 c1 c2 c3
          have MX := Lib.hid (HT.out.max.grown HN.out.grown (HT.out.ny.ne_zero HT.out.max))
          have HDO := Lib.hid (Take_took gy ty v' q1 p Bk p.opts.length d _ HN.out.at_ MX.out HPK.out.reads rfl (by have := hfit.len; omega) hfit.opts hfit.data)
          refine HDO.out.mono ?_
          clear HDO HPK PY hfit
          rintro e wt ⟨⟨Vt, vt, he, hnt, hpt⟩⟩
          subst he
          have HO2 := Lib.hid (HO.out.beside hnt.grown HN.out.at_.blk (by decide) (by decide))
          have HN2 := Lib.hid (HN.out.trans hnt)
          obtain ⟨lt, hlt2, hpt⟩ := hpt
          have HLT := Lib.hid hlt2
          have HPT := Lib.hid hpt
          have hzt := hnt.grown.size
          clear hnt hlt2 hpt HN HO MX
          generalize takeD q1 p = T at *
          obtain ⟨T1, T2, T3⟩ := T
          simp only at HN2 HLT HPT ST ⊢
          obtain ⟨At, ct, rfl, hct, _, _⟩ := own_shape HPT.out.row
          have RT := Lib.hid (Reads.of_own HPT.out.row)
          have hlen2 : l.length + lt.length ≤ 10 := by
            have e1 : l.length = q2.length := by rw [← HL.out, List.length_map]
            have e2 : lt.length = T2.length := by rw [← HLT.out, List.length_map]
            have e3 := LM.out
            rw [ST.out, HSTEP.out] at e3
            simp only [List.length_append] at e3
            omega
          obtain ⟨i0, hi0, hz0, hz1, hz2⟩ := info_parts Tryd.info41
          go_wp2_with (at_builtin; go_must (refine wpList_append_any _ rfl _ _ _ rfl wo.heap.size 41 i0 _ 4 56 Tryd.underlying32 hi0 hz0 hz1 hz2 rfl (by omega) (.slice Ao l.length co) l.length _ rfl HO2.out.row wt.heap.size At lt.length ct (packCells lt) rfl RT.out (packCells_one HPT.out) (by simp only [maxLen]; omega) (by omega) (by omega) ?_); intro V' w' hown' hg hat)
          exact ⟨⟨k + 1, vt, l ++ lt, by omega, by go_num, ⟨by rw [ST.out]; exact HN2.out.at_.onto HO2.out.row hg, only_row HN2.out.grown hg (fun j hj => (HO2.out.row.lt j hj).1)⟩, by rw [ST.out, List.map_append, HL.out, HLT.out], HO2.out.joined HPT.out (by omega) hg hown'⟩, by simp [intOf]; omega⟩
        · obtain rfl : k = toY.length := by omega
          clear hk2
          obtain ⟨Ao, co, rfl, hco, _, _⟩ := own_shape HO.out.row
          go_wp2_with fail
          rw [List.take_length] at HN HL
          rw [HSTEP.out] at HN HL
          have T2 := Lib.hid (HT.out.onY HN.out)
          have Q2 := Lib.hid (HQ.out.onY HT.out HN.out)
          have P2 := Lib.hid (show Pk _ wo.heap.size _ s'.toX from ⟨l, HL.out, HO.out⟩)
          have RW2 := Lib.hid HO.out.row
          clear HN HL HO HP HQ hk
          obtain ⟨wo2, hwo⟩ : ∃ wo2, wo2 = wr := ⟨_, rfl⟩
          subst hwo
          go_loopw [17, 21, 22, 23] (fun O kv _ _ wi => ∃ (k : Nat) (v' : Value) (l : List (PackD × Value)), k ≤ toX.length ∧ kv = .int .i64 k ∧ NegTo wo2 wi gx tx v' (takeAll sx (toX.take k)).1 ∧ l.map Prod.fst = (takeAll sx (toX.take k)).2 ∧ PacksIn wi wo2.heap.size O nilS l)
            (fun _ kv _ _ _ => toX.length - (intOf kv).toNat)
          case atStart => exact ⟨0, vx, [], Nat.zero_le _, rfl, ⟨T2.out.nx, World.grownBy.refl _ _⟩, rfl, World.ownsRow_nil _ _ _ _, (fun _ h => by simp at h), fun _ h => by simp at h⟩
          case round =>
            obtain ⟨k, v', l, hk, rfl, hn, hl, hp⟩ := hrel
            have HN := Lib.hid hn
            have HL := Lib.hid hl
            have HO := Lib.hid hp
            clear hn hl hp
            have hz := HN.out.grown.size
            by_cases hk2 : k < toX.length
            · have PY := Lib.hid (Q2.out.onX T2.out HN.out)
              obtain ⟨ad, Bk, d, hA, hPK⟩ := PY.out.at_ k hk2
              subst hA
              have ST := Lib.hid (takeAll_step sx toX k hk2)
              have LM := Lib.hid (takeAll_len sx toX (k + 1))
              have hfit := HFX.out _ (List.getElem_mem hk2)
              generalize toX[k]'hk2 = p at *
              have HPK := Lib.hid hPK
              obtain ⟨c0, c1, c2, c3, -⟩ := hPK
              obtain ⟨Ao, co, rfl, hco, _, _⟩ := own_shape HO.out.row
              generalize takeAll sx (toX.take k) = q at HN HL ST
              obtain ⟨q1, q2⟩ := q
              simp only at HN HL ST
              go_wp2_with fail
              clear c0 c1 c2 c3
              have MX := Lib.hid (T2.out.max.grown HN.out.grown (T2.out.nx.ne_zero T2.out.max))
              have HDO := Lib.hid (Take_took gx tx v' q1 p Bk p.opts.length d _ HN.out.at_ MX.out HPK.out.reads rfl (by have := hfit.len; omega) hfit.opts hfit.data)
              refine HDO.out.mono ?_
              clear HDO HPK PY hfit
              rintro e wt ⟨⟨Vt, vt, he, hnt, hpt⟩⟩
              subst he
              have HO2 := Lib.hid (HO.out.beside hnt.grown HN.out.at_.blk (by decide) (by decide))
              have HN2 := Lib.hid (HN.out.trans hnt)
              obtain ⟨lt, hlt2, hpt⟩ := hpt
              have HLT := Lib.hid hlt2
              have HPT := Lib.hid hpt
              have hzt := hnt.grown.size
              clear hnt hlt2 hpt HN HO MX
              generalize takeD q1 p = T at *
              obtain ⟨T1, T2, T3⟩ := T
              simp only at HN2 HLT HPT ST ⊢
              obtain ⟨At, ct, rfl, hct, _, _⟩ := own_shape HPT.out.row
              have RT := Lib.hid (Reads.of_own HPT.out.row)
              have hlen2 : l.length + lt.length ≤ 10 := by
                have e1 : l.length = q2.length := by rw [← HL.out, List.length_map]
                have e2 : lt.length = T2.length := by rw [← HLT.out, List.length_map]
                have e3 := LM.out
                rw [ST.out, HSTEP2.out] at e3
                simp only [List.length_append] at e3
                omega
              obtain ⟨i0, hi0, hz0, hz1, hz2⟩ := info_parts Tryd.info41
              go_wp2_with (at_builtin; go_must (refine wpList_append_any _ rfl _ _ _ rfl wo2.heap.size 41 i0 _ 4 56 Tryd.underlying32 hi0 hz0 hz1 hz2 rfl (by omega) (.slice Ao l.length co) l.length _ rfl HO2.out.row wt.heap.size At lt.length ct (packCells lt) rfl RT.out (packCells_one HPT.out) (by simp only [maxLen]; omega) (by omega) (by omega) ?_); intro V' w' hown' hg hat)
              exact ⟨⟨k + 1, vt, l ++ lt, by omega, by go_num, ⟨by rw [ST.out]; exact HN2.out.at_.onto HO2.out.row hg, only_row HN2.out.grown hg (fun j hj => (HO2.out.row.lt j hj).1)⟩, by rw [ST.out, List.map_append, HL.out, HLT.out], HO2.out.joined HPT.out (by omega) hg hown'⟩, by simp [intOf]; omega⟩
            · obtain rfl : k = toX.length := by omega
              clear hk2
              obtain ⟨Ao, co, rfl, hco, _, _⟩ := own_shape HO.out.row
              go_wp2_with fail
              rw [List.take_length] at HN HL
              rw [HSTEP2.out] at HN HL
              have T3 := Lib.hid (T2.out.onX HN.out)
              have P3 := Lib.hid (P2.out.onX T2.out HN.out)
              have Q3 := Lib.hid (show Pk _ wo2.heap.size _ s'.toY from ⟨_, HL.out, HO.out⟩)
              exact ⟨⟨i + 1, _, _, by omega, by go_num, by rw [HSj.out]; exact T3.out, by rw [HSj.out]; exact Q3.out.base T2.out.bw, by rw [HSj.out]; exact P3.out.base HT.out.bw⟩, by simp [intOf]; omega⟩
    · obtain rfl : i = R := by omega
      have hex := HR.out.endX
      have hey := HR.out.endY
      have hmany := HR.out.many
      obtain ⟨Ap, cp, rfl, hcp⟩ := HP.out.shape
      obtain ⟨Aq, cq, rfl, hcq⟩ := HQ.out.shape
      rw [hey] at HP hcp
      rw [hex] at HQ hcq
      rw [hey, hex]
      have hi40 : (i : Int) < 40 := by omega
      have hst : Calls Tryd.prog 16 #[.pointer (some ⟨gx, 0, none⟩)] wr fun e w' => e = .returned (.int .i64 9) ∧ wr = w' := by
        have := State_any gx tx vx _ wr HT.out.nx
        rwa [HOX.out.state] at this
      have hst2 : Calls Tryd.prog 16 #[.pointer (some ⟨gy, 0, none⟩)] wr fun e w' => e = .returned (.int .i64 9) ∧ wr = w' := by
        have := State_any gy ty vy _ wr HT.out.ny
        rwa [HOY.out.state] at this
      have HST := Lib.hid hst
      have HST2 := Lib.hid hst2
      clear hst hst2
      go_wp2_with (go_at_call 16; first | (refine HST.out.mono ?_; rintro e w' ⟨rfl, rfl⟩; clear HST) | (refine HST2.out.mono ?_; rintro e w' ⟨rfl, rfl⟩))
      go_ret3
      refine ⟨_, _, _, _, _, _, _, _, rfl, HT.out, HOX.out, HOY.out⟩
end Go.Proofs.YthlfghheciamcaaDoor
