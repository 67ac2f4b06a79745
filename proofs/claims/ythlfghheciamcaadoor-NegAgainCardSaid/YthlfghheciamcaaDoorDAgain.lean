/-
  NegAgain: a side that is open, and asked anew, asks anew itself, and both come to be open again: the law answers true at all links.
  Conditions: none.
-/
import Derived.Test.YthlfghheciamcaaDoorY4
namespace Go.Proofs.YthlfghheciamcaaDoor
open Go.RowKit Go.Joins Go.ChangeShapes Go.WideShapes Go.Deep Go.ChangeAt
open Go.ChangeMaps (open_string shut_string)
set_option linter.unusedVariables false

set_option maxRecDepth 100000 in
set_option maxHeartbeats 8000000 in
theorem walk_negAgain (a b : LinkD) (w : World) (hm : HasMax w) :
    Calls Tryd.prog 10 #[.agg #[.int .i64 a.mru, .int .i64 a.magic, .int .i64 a.mrru, .bool a.short, .string a.disc, .int .i64 a.num], .agg #[.int .i64 b.mru, .int .i64 b.magic, .int .i64 b.mrru, .bool b.short, .string b.disc, .int .i64 b.num]] w fun e w' => e = .returned (.bool true) ∧ Below w.heap.size w w' := by
  have HM := Lib.hid hm
  clear hm
  go_enter Tryd.func10, Tryd.ntmps10
  go_wp2_with fail
  have hlb : LinkAt ((w.alloc (.cells a.cells 23)).alloc (.cells b.cells 23)) (w.heap.size + 1) b := by
    have := LinkAt.new (w.alloc (.cells a.cells 23)) b
    rwa [show (w.alloc (.cells a.cells 23)).heap.size = w.heap.size + 1 by simp] at this
  have hla : LinkAt ((w.alloc (.cells a.cells 23)).alloc (.cells b.cells 23)) w.heap.size a := Blk.alloc (LinkAt.new w a) _
  have hb0 := (((Below.refl w.heap.size w).alloc (Nat.le_refl _) (.cells a.cells 23)).alloc (by simp) (.cells b.cells 23))
  refine (awake_any _ (HM.out.below hb0 HM.out.pos)).mono ?_
  rintro e w1 ⟨rfl, hb1⟩
  have B1 := Lib.hid (below_trans' hb0 (by simp; omega) hb1)
  have LA1 := Lib.hid (hla.below hb1)
  have LB1 := Lib.hid (hlb.below hb1)
  clear hlb hla hb0 hb1
  obtain ⟨c0, c1, c2, c3, c4, c5⟩ := LA1.out.cells
  go_wp2_with fail
  refine (may_ref a _).mono ?_
  rintro e w2 ⟨rfl, hb2⟩
  have LA2 := Lib.hid (LA1.out.below hb2)
  have LB2 := Lib.hid (LB1.out.below hb2)
  have B2 := Lib.hid (below_trans' B1.out B1.out.size hb2)
  clear c0 c1 c2 c3 c4 c5 hb2 LA1 LB1 B1
  rcases hma : a.may with _ | _
  · go_wp2_with fail
    go_ret
    exact ⟨rfl, B2.out⟩
  · obtain ⟨c0, c1, c2, c3, c4, c5⟩ := LB2.out.cells
    go_wp2_with fail
    refine (may_ref b _).mono ?_
    rintro e w3 ⟨rfl, hb3⟩
    have LA3 := Lib.hid (LA2.out.below hb3)
    have LB3 := Lib.hid (LB2.out.below hb3)
    have B3 := Lib.hid (below_trans' B2.out B2.out.size hb3)
    have M3 := Lib.hid (HM.out.below B3.out HM.out.pos)
    clear c0 c1 c2 c3 c4 c5 hb3 LA2 LB2 B2
    rcases hmb : b.may with _ | _
    · go_wp2_with fail
      go_ret
      exact ⟨rfl, B3.out⟩
    · obtain ⟨c0, c1, c2, c3, c4, c5⟩ := LA3.out.cells
      obtain ⟨d0, d1, d2, d3, d4, d5⟩ := LB3.out.cells
      by_cases hmg : a.magic ≠ 0 ∧ a.magic = b.magic
      · have hz : (a.magic != 0) = true := by simpa using hmg.1
        have hq : (a.magic == b.magic) = true := by simpa using hmg.2
        clear hmg
        go_wp2_with fail
        go_ret
        exact ⟨rfl, B3.out⟩
      · have hab := Lib.hid (show magOk a b from fun h0 h1 => hmg ⟨h0, h1⟩)
        have hba := Lib.hid (show magOk b a from fun h0 h1 => hmg ⟨by rw [← h1]; exact h0, h1.symm⟩)
        have hor : (a.magic != 0) = false ∨ ((a.magic != 0) = true ∧ (a.magic == b.magic) = false) := by
          by_cases h0 : a.magic = 0
          · exact .inl (by simp [h0])
          · exact .inr ⟨by simpa using h0, by simpa using fun h => hmg ⟨h0, h⟩⟩
        clear hmg
        rcases hor with hz | ⟨hz, hq⟩
        all_goals
          go_wp2_with fail
          clear c0 c1 c2 c3 c4 c5 d0 d1 d2 d3 d4 d5
          refine (open_any a b _ M3.out hma hmb hab.out hba.out).mono ?_
          rintro e w4 ⟨⟨gx, tx, vx, x, gy, ty, vy, y, rfl, hT, hox, hoy⟩⟩
          have T4 := Lib.hid hT
          have OX := Lib.hid hox
          have OY := Lib.hid hoy
          clear hT hox hoy
          go_wp2_with fail
          have HDO := Lib.hid (Do_took gy ty vy y 1 _ T4.out.ny T4.out.max)
          rw [do_down9 OY.out.state] at HDO
          refine HDO.out.mono ?_
          clear HDO
          rintro e w5 ⟨⟨V5, v5, he, hn, hp⟩⟩
          simp only at he hn hp
          subst he
          have T5 := Lib.hid (T4.out.onY hn)
          clear hn hp T4
          go_wp2_with fail
          have HDO := Lib.hid (Do_took gy ty v5 _ 0 _ T5.out.ny T5.out.max)
          rw [do_up_down] at HDO
          refine HDO.out.mono ?_
          clear HDO
          rintro e w6 ⟨⟨V6, v6, he, hn, hp⟩⟩
          simp only at he hn hp
          subst he
          have T6 := Lib.hid (T5.out.onY hn)
          have Q6 := Lib.hid (hp.pk.base T5.out.bw)
          clear hn hp T5
          obtain ⟨S, R, hR, hS0, hox, hoy⟩ := runs_again OX.out OY.out hma hmb hab.out hba.out
          clear OX OY
          generalize meet a b = l at hox hoy
          generalize meet b a = m at hox hoy
          have HR := Lib.hid hR
          have HS0 := Lib.hid hS0
          have HOX := Lib.hid hox
          have HOY := Lib.hid hoy
          clear hR hS0 hox hoy
          go_wp2_with fail
          go_loopw [8, 10, 11, 12, 13, 14, 15, 16, 17, 18, 19] (fun U V iv _ _ _ _ _ _ _ _ wr => ∃ (i : Nat) (vx vy : Value), i ≤ R ∧ iv = .int .i64 i ∧ TwoAt w3.heap.size w3 wr gx tx vx (S i).x gy ty vy (S i).y ∧ Pk wr w3.heap.size V (S i).toY ∧ Pk wr w3.heap.size U (S i).toX)
            (fun _ _ iv _ _ _ _ _ _ _ _ _ => R - (intOf iv).toNat)
          case atStart => exact ⟨0, vx, v6, Nat.zero_le _, rfl, by rw [HS0.out]; exact T6.out, by rw [HS0.out]; exact Pk.nil _ _, by rw [HS0.out]; exact Q6.out⟩
          case round =>
            obtain ⟨i, vx, vy, hi, rfl, ht, hp, hq⟩ := hrel
            have HT := Lib.hid ht
            have HP := Lib.hid hp
            have HQ := Lib.hid hq
            clear ht hp hq T6 Q6
            by_cases hlt : i < R
            · have hsome := HR.out.some i hlt
              obtain ⟨Ap, cp, rfl, hcp⟩ := HP.out.shape
              obtain ⟨Aq, cq, rfl, hcq⟩ := HQ.out.shape
              have hlp := HR.out.lenY i (by omega)
              have hlq := HR.out.lenX i (by omega)
              have hstep := HR.out.stepY i hlt
              have hstep2 := HR.out.stepX i hlt
              have hln := HR.out.lenX (i + 1) (by omega)
              have hln2 := HR.out.lenY (i + 1) (by omega)
              have hfy := HR.out.fitY i (by omega)
              have hfx := HR.out.fitX i (by omega)
              have hmany := HR.out.many
              generalize hSi : S i = s at *
              generalize hSj : S (i + 1) = s' at *
              have HSi := Lib.hid hSi
              have HSj := Lib.hid hSj
              have HSTEP := Lib.hid hstep
              have HSTEP2 := Lib.hid hstep2
              have HFY := Lib.hid hfy
              have HFX := Lib.hid hfx
              clear hstep hstep2 hSi hSj hfy hfx
              obtain ⟨sx, sy, toX, toY⟩ := s
              simp only at HT HP HQ HSTEP HSTEP2 HFY HFX hsome hlp hlq hcp hcq
              have hi40 : (i : Int) < 40 := by omega
              have hpos : (0 : Int) < (toX.length : Int) + (toY.length : Int) := by omega
              go_wp2_with fail
              obtain ⟨wo, hwo⟩ : ∃ wo, wo = wr := ⟨_, rfl⟩
              subst hwo
              go_loopw [12, 14, 15, 16] (fun O kv _ _ wi => ∃ (k : Nat) (v' : Value) (l : List (PackD × Value)), k ≤ toY.length ∧ kv = .int .i64 k ∧ NegTo wo wi gy ty v' (takeAll sy (toY.take k)).1 ∧ l.map Prod.fst = (takeAll sy (toY.take k)).2 ∧ PacksIn wi wo.heap.size O nilS l)
                (fun _ kv _ _ _ => toY.length - (intOf kv).toNat)
              case atStart => exact ⟨0, vy, [], Nat.zero_le _, rfl, ⟨HT.out.ny, World.grownBy.refl _ _⟩, rfl, World.ownsRow_nil _ _ _ _, (fun _ h => by simp at h), fun _ h => by simp at h⟩
              case round =>
                obtain ⟨k, v', l, hk, rfl, hn, hl, hp⟩ := hrel
                have HN := Lib.hid hn
                have HL := Lib.hid hl
                have HO := Lib.hid hp
                clear hn hl hp
                have hz := HN.out.grown.size
                by_cases hk2 : k < toY.length
                · have PY := Lib.hid (HP.out.onY HT.out HN.out)
                  obtain ⟨ad, Bk, d, hA, hPK⟩ := PY.out.at_ k hk2
                  subst hA
                  have ST := Lib.hid (takeAll_step sy toY k hk2)
                  have LM := Lib.hid (takeAll_len sy toY (k + 1))
                  have hfit := HFY.out _ (List.getElem_mem hk2)
                  generalize toY[k]'hk2 = p at *
                  have HPK := Lib.hid hPK
                  obtain ⟨c0, c1, c2, c3, -⟩ := hPK
                  obtain ⟨Ao, co, rfl, hco, _, _⟩ := own_shape HO.out.row
                  generalize takeAll sy (toY.take k) = q at HN HL ST
                  obtain ⟨q1, q2⟩ := q
                  simp only at HN HL ST
                  go_wp2_with fail
                  clear c0 c1 c2 c3
                  have MX := Lib.hid (HT.out.max.grown HN.out.grown (HT.out.ny.ne_zero HT.out.max))
                  have HDO := Lib.hid (Take_took gy ty v' q1 p Bk p.opts.length d _ HN.out.at_ MX.out HPK.out.reads rfl (by have := hfit.len; omega) hfit.opts hfit.data)
                  refine HDO.out.mono ?_
                  clear HDO HPK PY hfit
                  rintro e wt ⟨⟨Vt, vt, he, hnt, hpt⟩⟩
                  subst he
                  have HO2 := Lib.hid (HO.out.beside hnt.grown HN.out.at_.blk (by decide) (by decide))
                  have HN2 := Lib.hid (HN.out.trans hnt)
                  obtain ⟨lt, hlt2, hpt⟩ := hpt
                  have HLT := Lib.hid hlt2
                  have HPT := Lib.hid hpt
                  have hzt := hnt.grown.size
                  clear hnt hlt2 hpt HN HO MX
                  generalize takeD q1 p = T at *
                  obtain ⟨T1, T2, T3⟩ := T
                  simp only at HN2 HLT HPT ST ⊢
                  obtain ⟨At, ct, rfl, hct, _, _⟩ := own_shape HPT.out.row
                  have RT := Lib.hid (Reads.of_own HPT.out.row)
                  have hlen2 : l.length + lt.length ≤ 10 := by
                    have e1 : l.length = q2.length := by rw [← HL.out, List.length_map]
                    have e2 : lt.length = T2.length := by rw [← HLT.out, List.length_map]
                    have e3 := LM.out
                    rw [ST.out, HSTEP.out] at e3
                    simp only [List.length_append] at e3
                    omega
                  obtain ⟨i0, hi0, hz0, hz1, hz2⟩ := info_parts Tryd.info41
                  go_wp2_with (at_builtin; go_must (refine wpList_append_any _ rfl _ _ _ rfl wo.heap.size 41 i0 _ 4 56 Tryd.underlying32 hi0 hz0 hz1 hz2 rfl (by omega) (.slice Ao l.length co) l.length _ rfl HO2.out.row wt.heap.size At lt.length ct (packCells lt) rfl RT.out (packCells_one HPT.out) (by simp only [maxLen]; omega) (by omega) (by omega) ?_); intro V' w' hown' hg hat)
                  exact ⟨⟨k + 1, vt, l ++ lt, by omega, by go_num, ⟨by rw [ST.out]; exact HN2.out.at_.onto HO2.out.row hg, only_row HN2.out.grown hg (fun j hj => (HO2.out.row.lt j hj).1)⟩, by rw [ST.out, List.map_append, HL.out, HLT.out], HO2.out.joined HPT.out (by omega) hg hown'⟩, by simp [intOf]; omega⟩
                · obtain rfl : k = toY.length := by omega
                  clear hk2
                  obtain ⟨Ao, co, rfl, hco, _, _⟩ := own_shape HO.out.row
                  go_wp2_with fail
                  rw [List.take_length] at HN HL
                  rw [HSTEP.out] at HN HL
                  have T2 := Lib.hid (HT.out.onY HN.out)
                  have Q2 := Lib.hid (HQ.out.onY HT.out HN.out)
                  have P2 := Lib.hid (show Pk _ wo.heap.size _ s'.toX from ⟨l, HL.out, HO.out⟩)
                  have RW2 := Lib.hid HO.out.row
                  clear HN HL HO HP HQ hk
                  obtain ⟨wo2, hwo⟩ : ∃ wo2, wo2 = wr := ⟨_, rfl⟩
                  subst hwo
                  go_loopw [13, 17, 18, 19] (fun O kv _ _ wi => ∃ (k : Nat) (v' : Value) (l : List (PackD × Value)), k ≤ toX.length ∧ kv = .int .i64 k ∧ NegTo wo2 wi gx tx v' (takeAll sx (toX.take k)).1 ∧ l.map Prod.fst = (takeAll sx (toX.take k)).2 ∧ PacksIn wi wo2.heap.size O nilS l)
                    (fun _ kv _ _ _ => toX.length - (intOf kv).toNat)
                  case atStart => exact ⟨0, vx, [], Nat.zero_le _, rfl, ⟨T2.out.nx, World.grownBy.refl _ _⟩, rfl, World.ownsRow_nil _ _ _ _, (fun _ h => by simp at h), fun _ h => by simp at h⟩
                  case round =>
                    obtain ⟨k, v', l, hk, rfl, hn, hl, hp⟩ := hrel
                    have HN := Lib.hid hn
                    have HL := Lib.hid hl
                    have HO := Lib.hid hp
                    clear hn hl hp
                    have hz := HN.out.grown.size
                    by_cases hk2 : k < toX.length
                    · have PY := Lib.hid (Q2.out.onX T2.out HN.out)
                      obtain ⟨ad, Bk, d, hA, hPK⟩ := PY.out.at_ k hk2
                      subst hA
                      have ST := Lib.hid (takeAll_step sx toX k hk2)
                      have LM := Lib.hid (takeAll_len sx toX (k + 1))
                      have hfit := HFX.out _ (List.getElem_mem hk2)
                      generalize toX[k]'hk2 = p at *
                      have HPK := Lib.hid hPK
                      obtain ⟨c0, c1, c2, c3, -⟩ := hPK
                      obtain ⟨Ao, co, rfl, hco, _, _⟩ := own_shape HO.out.row
                      generalize takeAll sx (toX.take k) = q at HN HL ST
                      obtain ⟨q1, q2⟩ := q
                      simp only at HN HL ST
                      go_wp2_with fail
                      clear c0 c1 c2 c3
                      have MX := Lib.hid (T2.out.max.grown HN.out.grown (T2.out.nx.ne_zero T2.out.max))
                      have HDO := Lib.hid (Take_took gx tx v' q1 p Bk p.opts.length d _ HN.out.at_ MX.out HPK.out.reads rfl (by have := hfit.len; omega) hfit.opts hfit.data)
                      refine HDO.out.mono ?_
                      clear HDO HPK PY hfit
                      rintro e wt ⟨⟨Vt, vt, he, hnt, hpt⟩⟩
                      subst he
                      have HO2 := Lib.hid (HO.out.beside hnt.grown HN.out.at_.blk (by decide) (by decide))
                      have HN2 := Lib.hid (HN.out.trans hnt)
                      obtain ⟨lt, hlt2, hpt⟩ := hpt
                      have HLT := Lib.hid hlt2
                      have HPT := Lib.hid hpt
                      have hzt := hnt.grown.size
                      clear hnt hlt2 hpt HN HO MX
                      generalize takeD q1 p = T at *
                      obtain ⟨T1, T2, T3⟩ := T
                      simp only at HN2 HLT HPT ST ⊢
                      obtain ⟨At, ct, rfl, hct, _, _⟩ := own_shape HPT.out.row
                      have RT := Lib.hid (Reads.of_own HPT.out.row)
                      have hlen2 : l.length + lt.length ≤ 10 := by
                        have e1 : l.length = q2.length := by rw [← HL.out, List.length_map]
                        have e2 : lt.length = T2.length := by rw [← HLT.out, List.length_map]
                        have e3 := LM.out
                        rw [ST.out, HSTEP2.out] at e3
                        simp only [List.length_append] at e3
                        omega
                      obtain ⟨i0, hi0, hz0, hz1, hz2⟩ := info_parts Tryd.info41
                      go_wp2_with (at_builtin; go_must (refine wpList_append_any _ rfl _ _ _ rfl wo2.heap.size 41 i0 _ 4 56 Tryd.underlying32 hi0 hz0 hz1 hz2 rfl (by omega) (.slice Ao l.length co) l.length _ rfl HO2.out.row wt.heap.size At lt.length ct (packCells lt) rfl RT.out (packCells_one HPT.out) (by simp only [maxLen]; omega) (by omega) (by omega) ?_); intro V' w' hown' hg hat)
                      exact ⟨⟨k + 1, vt, l ++ lt, by omega, by go_num, ⟨by rw [ST.out]; exact HN2.out.at_.onto HO2.out.row hg, only_row HN2.out.grown hg (fun j hj => (HO2.out.row.lt j hj).1)⟩, by rw [ST.out, List.map_append, HL.out, HLT.out], HO2.out.joined HPT.out (by omega) hg hown'⟩, by simp [intOf]; omega⟩
                    · obtain rfl : k = toX.length := by omega
                      clear hk2
                      obtain ⟨Ao, co, rfl, hco, _, _⟩ := own_shape HO.out.row
                      go_wp2_with fail
                      rw [List.take_length] at HN HL
                      rw [HSTEP2.out] at HN HL
                      have T3 := Lib.hid (T2.out.onX HN.out)
                      have P3 := Lib.hid (P2.out.onX T2.out HN.out)
                      have Q3 := Lib.hid (show Pk _ wo2.heap.size _ s'.toY from ⟨_, HL.out, HO.out⟩)
                      exact ⟨⟨i + 1, _, _, by omega, by go_num, by rw [HSj.out]; exact T3.out, by rw [HSj.out]; exact Q3.out.base T2.out.bw, by rw [HSj.out]; exact P3.out.base HT.out.bw⟩, by simp [intOf]; omega⟩
            · obtain rfl : i = R := by omega
              have hex := HR.out.endX
              have hey := HR.out.endY
              have hmany := HR.out.many
              obtain ⟨Ap, cp, rfl, hcp⟩ := HP.out.shape
              obtain ⟨Aq, cq, rfl, hcq⟩ := HQ.out.shape
              rw [hey] at HP hcp
              rw [hex] at HQ hcq
              rw [hey, hex]
              have hi40 : (i : Int) < 40 := by omega
              have hst := State_any gx tx vx _ wr HT.out.nx
              rw [HOX.out.state] at hst
              have hst2 := State_any gy ty vy _ wr HT.out.ny
              rw [HOY.out.state] at hst2
              have ho1 := fun w' (hb : Below wr.heap.size wr w') => Other_any gx tx vx _ w' (HT.out.nx.below hb)
              rw [HOX.out.other] at ho1
              have ho2 := fun w' (hb : Below wr.heap.size wr w') => Own_any gy ty vy _ w' (HT.out.ny.below hb)
              rw [HOY.out.own] at ho2
              have ho3 := fun w' (hb : Below wr.heap.size wr w') => Other_any gy ty vy _ w' (HT.out.ny.below hb)
              rw [HOY.out.other] at ho3
              have ho4 := fun w' (hb : Below wr.heap.size wr w') => Own_any gx tx vx _ w' (HT.out.nx.below hb)
              rw [HOX.out.own] at ho4
              have hee : ∀ (a : LinkD) w, (binOp .eql 23 (.agg #[.int .i64 a.mru, .int .i64 a.magic, .int .i64 a.mrru, .bool a.short, .string a.disc, .int .i64 a.num]) (.agg #[.int .i64 a.mru, .int .i64 a.magic, .int .i64 a.mrru, .bool a.short, .string a.disc, .int .i64 a.num])).run Tryd.prog w = .ok (.bool true) w := fun a w => by
                have := link_eql a a w
                rw [LinkD.eqB_iff] at this
                simpa using this
              have hel := hee l
              have hem := hee m
              have HGT := Lib.hid (show Tryd.prog.eqGuardType Tryd.prog.depth 23 = false by kernel_rfl)
              have HST := Lib.hid hst
              have HST2 := Lib.hid hst2
              have HO1 := Lib.hid ho1
              have HO2 := Lib.hid ho2
              have HO3 := Lib.hid ho3
              have HO4 := Lib.hid ho4
              clear hst hst2 ho1 ho2 ho3 ho4 hee
              have HB0 := Lib.hid (below_trans' B3.out B3.out.size HT.out.b)
              have hbw := HT.out.bw
              clear HT HP HQ HR HS0
              go_wp2_with (first | (refine wpList_eql HGT.out rfl rfl rfl rfl (hem _) ?_; clear hem) | (refine wpList_eql HGT.out rfl rfl rfl rfl (hel _) ?_; clear hel) | (go_at_call 13; refine (num_any _ _).mono ?_; rintro e w' ⟨rfl, rfl⟩) | (go_at_call 16; first | (refine HST.out.mono ?_; rintro e w' ⟨rfl, rfl⟩; clear HST) | (refine HST2.out.mono ?_; rintro e w' ⟨rfl, rfl⟩)) | (go_at_call 22; refine (HO1.out _ (Below.refl _ _)).mono ?_; rintro e wa ⟨rfl, hA⟩; clear HO1) | (go_at_call 20; refine (HO2.out _ hA).mono ?_; rintro e wb ⟨rfl, hB⟩; have hAB := below_trans' hA hA.size hB; clear HO2) | (go_at_call 22; refine (HO3.out _ hAB).mono ?_; rintro e wc ⟨rfl, hC⟩; have hABC := below_trans' hAB hAB.size hC) | (go_at_call 20; refine (HO4.out _ hABC).mono ?_; rintro e wd ⟨rfl, hD⟩; have hABCD := below_trans' hABC hABC.size hD))
              go_ret
              exact ⟨rfl, below_trans' HB0.out HB0.out.size hABCD⟩


set_option maxRecDepth 100000 in
theorem negAgain_lifted (os : Os) (started : os.Started) (H : Type) (enc : TypeId × Value → H) :
    ReturnsInHanded {} Tryd.checked os 10 .any (fun w args => (Rows.negAgainSpec.pre enc Tryd.prog Tryd.f10 Rows.negAgainRow.domain false w args ∧ laidMetH Tryd.prog Rows.negAgainRow.laid w) ∧ sizedMet enc Tryd.prog Tryd.f10 (OpenSpec.ofChange Rows.negAgainSpec) false w args)
      (Rows.negAgainSpec.post enc Tryd.prog Tryd.f10 false true false false) := by
  refine returns_shaped_and (C := Tryd.checked) (X := fun w _ => laidMetH Tryd.prog Rows.negAgainRow.laid w) (fun _ _ _ hh h => h.of_heap hh) own_knob started (by kernel_rfl) Tryd.func10
    (ChangeSpec.witness_shaped (enc := enc) (C := Tryd.checked) (os := os) (X := fun w _ => laidMetH Tryd.prog Rows.negAgainRow.laid w) false (World.laidAll Tryd.prog os Rows.negAgainRow.laid) #[.agg #[.int .i64 0, .int .i64 0, .int .i64 0, .bool false, .string ⟨#[]⟩, .int .i64 0], .agg #[.int .i64 0, .int .i64 0, .int .i64 0, .bool false, .string ⟨#[]⟩, .int .i64 0]] 8 (World.laidAll_os _ _ _)
      (World.shaped_of_ZipB (by kernel_rfl) (by kernel_rfl)) (by kernel_rfl) (by kernel_rfl) (by kernel_rfl)
      (by rw [MakeChecks.laidMetH_plain _ _ _ (by kernel_rfl)]; exact laidMet_laidAll _ (by kernel_rfl) (by kernel_rfl))) ?_
  intro W base args ds gs before hval0 hW hcnd hsz0 hL hsh _
  have hval : ∀ (j : Nat) t v, Tryd.f10.params[j]? = some t → args[j]? = some v → Value.okWide Tryd.prog W .any base t v := hval0
  have hmx := has_max hsh
  have hW' := hW
  obtain ⟨p, q, hA0, hV, rfl, hfz, hnd⟩ := hW
  have hA : DataW.TrodAll enc Tryd.prog W 0 (fun _ => true) true Tryd.f10.params.toList args.toList ds p := hA0
  have hsz : (DataW.weightsEach Tryd.prog (Tryd.f10.params.toList ++ Rows.negAgainSpec.plain.varTypes Tryd.prog) (ds ++ gs)).all (· ≤ reachBytes) = true := hsz0
  rw [Tryd.params10] at hA hval hsz
  obtain ⟨v0, vs0, d0, ds0, p0, q0, hargs, rfl, rfl, h0, r0⟩ := trodAll_cons hA
  obtain ⟨v1, vs1, d1, ds1, p1, q1, rfl, rfl, rfl, h1, r1⟩ := trodAll_cons r0
  obtain ⟨rfl, rfl, rfl⟩ := trodAll_nil r1
  obtain rfl : args = #[v0, v1] := by cases args; simp_all
  obtain ⟨rfl, rfl⟩ := trodVars_none hV
  have k0 := h0
  obtain ⟨a, rfl⟩ := open_link (hval 0 23 v0 rfl rfl) h0
  have k1 := h1
  obtain ⟨b, rfl⟩ := open_link (hval 1 23 v1 rfl rfl) h1
  clear hA0 hval0
  refine (walk_negAgain a b W hmx).mono fun e W' ⟨he, bel⟩ => ?_
  subst he
  exact ⟨_, rfl, _, _, _, [], _, [], hW', trodAll_cons_mk (shut_bool Tryd.underlying4 _) trodAll_mk0, (trodAll_cons_mk (Below.trod laid_out (by kernel_rfl) (of_decide_eq_true (by kernel_rfl)) k0 bel (trod_below k0)) (trodAll_cons_mk (Below.trod laid_out (by kernel_rfl) (of_decide_eq_true (by kernel_rfl)) k1 bel (trod_below k1)) trodAll_mk0)), rfl, bel.frame _, fun h => by cases h⟩

theorem negAgain_holds : Rows.NegAgainSaid :=
  OpenClaim.holds_of_wide 10 Tryd.f10 rfl rfl rfl rfl rfl rfl rfl ⟨rfl, rfl, rfl, rfl, rfl⟩ rfl rfl rfl rfl rfl (by kernel_rfl) Tryd.func10 (by kernel_rfl)
    (of_decide_eq_true (by kernel_rfl)) (by unfold Func.isWrapper; first | (rw [if_pos (by decide +kernel)]; kernel_rfl) | (rw [if_neg (by decide +kernel)]; exact ⟨rfl, rfl⟩))
    (fun os started H enc _ => negAgain_lifted os started H enc)
theorem negAgain_card : Rows.NegAgainCardSaid :=
  Claim7.holds_tied_plain_at .later [] [.data, .pinned] true (true, "d4a511c915e6a17b6bf218a66d26c660ca8097baf3c083678f03dd7ace4f4ba1") false negAgain_holds (fun _ h => by cases h) (by kernel_rfl) (fun _ h => by cases h) negAgain_row_tie rfl ⟨rfl, rfl⟩ (by kernel_rfl) rfl
    (fun f fn hf hfn => by
      obtain rfl : f = 10 := Option.some.inj ((show Tryd.prog.funcNamed "withy/withylaw15.NegAgain" = some 10 by kernel_rfl).symm.trans hf) |>.symm
      obtain rfl : fn = Tryd.f10 := (Option.some.inj (Tryd.func10.symm.trans hfn)).symm
      exact ⟨by kernel_rfl, fun j t ht => by
        rw [Tryd.params10] at ht
        have hm : t ∈ [23, 23] := by simpa using Array.mem_of_getElem? ht
        have hall : ([23, 23].all fun u => !Tryd.prog.wantsStandIn u) = true := by kernel_rfl
        exact (show Tryd.prog.wantsStandIn t = false by simpa using List.all_eq_true.1 hall t hm)⟩)
    (by kernel_rfl)
#print axioms negAgain_card
end Go.Proofs.YthlfghheciamcaaDoor

