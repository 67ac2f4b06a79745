/-
  NegTwo: two sides whose packets come in whatever order are open after a few: the law answers true at all links and all picks.
  Conditions: none.
-/
import Derived.Test.YthlfghheciamcaaDoorZ5
namespace Go.Proofs.YthlfghheciamcaaDoor
open Go.RowKit Go.Joins Go.ChangeShapes Go.WideShapes Go.Deep Go.ChangeAt
open Go.ChangeMaps (open_string shut_string)
set_option linter.unusedVariables false

set_option maxRecDepth 100000 in
theorem open_ints' {H : Type} {enc : TypeId × Value → H} {W : World} {base : Nat} {v : Value} {d : DataW H} {p : List MemPlace} (hv : Value.okWide Tryd.prog W .any base 47 v)
    (h : DataW.Trod enc Tryd.prog W 0 (fun _ => true) true 47 v d p) : ∃ A n c zs, v = .slice A n c ∧ Reads W W.heap.size 1 A n (intCells zs) ∧ n ≤ 9223372036854775807 := by
  obtain ⟨a0, n0, c0, rfl⟩ := okWide_slice Tryd.underlying47 hv
  obtain ⟨fuel, hf⟩ := h
  rcases open_ints Tryd.underlying47 Tryd.underlying3 (by kernel_rfl) hf with ⟨hcs, _⟩ | ⟨a, len, cap, zs, hcs, _, hle, hmax, hlen, _, hcell, _⟩
  · simp [Value.cells] at hcs
    obtain ⟨rfl, rfl, rfl⟩ := hcs
    exact ⟨none, 0, 0, [], rfl, Reads.none_, by omega⟩
  · simp [Value.cells] at hcs
    obtain ⟨rfl, rfl, rfl⟩ := hcs
    have hl : n0 ≤ zs.length := by rw [hlen]; split <;> omega
    refine ⟨some a, n0, c0, zs.take n0, rfl, ⟨by simp [intCells]; omega, fun hn => ?_⟩, by simp only [maxLen] at hmax; omega⟩
    have h0 := hcell 0 (by omega)
    refine ⟨a, rfl, by have := World.block_lt_of_cell? W _ h0; rwa [block_of_add] at this, fun j u hu => ?_⟩
    simp only [intCells, List.getElem?_map, List.getElem?_take] at hu
    by_cases hj : j < n0
    · rw [if_pos hj, List.getElem?_eq_getElem (by omega)] at hu
      have hc := hcell j (by omega)
      rw [List.getD_eq_getElem?_getD, List.getElem?_eq_getElem (by omega)] at hc
      simp only [Option.map_some, Option.some.injEq] at hu
      rw [← hu]
      exact hc
    · rw [if_neg hj] at hu; cases hu
theorem mask_one (x : Int) : ∃ k, bits .and .i64 x 1 = k ∧ (k = 0 ∨ k = 1) := by
  obtain ⟨k, hk, h0, h1⟩ := and_mask x 1 (by omega)
  have h1' : k ≤ 1 := h1
  exact ⟨k, hk, by omega⟩
theorem Pk.shape2 {w : World} {base : Nat} {V : Value} {ps : List PackD} (h : Pk w base V ps) : ∃ A n c, V = .slice A n c ∧ n = ps.length ∧ n ≤ c := by
  obtain ⟨A, c, e, hc⟩ := h.shape
  exact ⟨A, _, c, e, rfl, hc⟩
theorem Pk.cap {w : World} {base n c : Nat} {A : Option Addr} {ps : List PackD} (h : Pk w base (.slice A n c) ps) : c ≤ maxLen := by
  obtain ⟨l, rfl, hp⟩ := h
  obtain ⟨A', c', e, _, hm, _⟩ := own_shape hp.row
  injection e with e1 e2 e3
  omega
theorem packCells_tail {w : World} {base : Nat} {V nv : Value} {x : PackD × Value} {l : List (PackD × Value)} (h : PacksIn w base V nv (x :: l)) : ∀ u ∈ packCells l, u.oneCell' = true := fun u hu => packCells_one h u (by rw [packCells_cons]; simp [hu])
theorem fresh_apart {w : World} {base : Nat} {V U : Value} {ps : List PackD} (h : Pk w base V ps) (hU : ∀ g, U.ownBlock = some g → w.heap.size ≤ g) : Apart U V := by
  obtain ⟨l, _, hp⟩ := h
  intro g hg hv
  have h1 := hU g hg
  have h2 := (hp.row.lt g hv).2
  omega
/-- how far the sides have begun -/
inductive InitS (a b : LinkD) : Nat → NegD → NegD → List PackD → List PackD → Prop
  | zero : InitS a b 0 (newD a 10) (newD b 10) [] []
  | one : InitS a b 1 (askX a) (newD b 10) [] [req1 a]
  | two : InitS a b 2 (askX a) (askX b) [req1 b] [req1 a]

set_option maxRecDepth 100000 in
set_option maxHeartbeats 8000000 in
theorem walk_negTwo (a b : LinkD) (Ak : Option Addr) (nk ck : Nat) (zs : List Int) (w : World) (hm : HasMax w) (hr : Reads w w.heap.size 1 Ak nk (intCells zs)) (hnk : nk ≤ 9223372036854775807) :
    Calls Tryd.prog 9 #[.agg #[.int .i64 a.mru, .int .i64 a.magic, .int .i64 a.mrru, .bool a.short, .string a.disc, .int .i64 a.num], .agg #[.int .i64 b.mru, .int .i64 b.magic, .int .i64 b.mrru, .bool b.short, .string b.disc, .int .i64 b.num], .slice Ak nk ck] w fun e w' => e = .returned (.bool true) ∧ Below w.heap.size w w' := by
  have HM := Lib.hid hm
  have HRK := Lib.hid hr
  clear hm hr
  go_enter Tryd.func9, Tryd.ntmps9
  go_wp2_with fail
  have hlb : LinkAt ((w.alloc (.cells a.cells 23)).alloc (.cells b.cells 23)) (w.heap.size + 1) b := by
    have := LinkAt.new (w.alloc (.cells a.cells 23)) b
    rwa [show (w.alloc (.cells a.cells 23)).heap.size = w.heap.size + 1 by simp] at this
  have hla : LinkAt ((w.alloc (.cells a.cells 23)).alloc (.cells b.cells 23)) w.heap.size a := Blk.alloc (LinkAt.new w a) _
  have hb0 := (((Below.refl w.heap.size w).alloc (Nat.le_refl _) (.cells a.cells 23)).alloc (by simp) (.cells b.cells 23))
  refine (awake_any _ (HM.out.below hb0 HM.out.pos)).mono ?_
  rintro e w1 ⟨rfl, hb1⟩
  have B1 := Lib.hid (below_trans' hb0 (by simp; omega) hb1)
  have LA1 := Lib.hid (hla.below hb1)
  have LB1 := Lib.hid (hlb.below hb1)
  clear hlb hla hb0 hb1
  obtain ⟨c0, c1, c2, c3, c4, c5⟩ := LA1.out.cells
  go_wp2_with fail
  refine (may_ref a _).mono ?_
  rintro e w2 ⟨rfl, hb2⟩
  have LA2 := Lib.hid (LA1.out.below hb2)
  have LB2 := Lib.hid (LB1.out.below hb2)
  have B2 := Lib.hid (below_trans' B1.out B1.out.size hb2)
  clear c0 c1 c2 c3 c4 c5 hb2 LA1 LB1 B1
  rcases hma : a.may with _ | _
  · go_wp2_with fail
    go_ret
    exact ⟨rfl, B2.out⟩
  · obtain ⟨c0, c1, c2, c3, c4, c5⟩ := LB2.out.cells
    go_wp2_with fail
    refine (may_ref b _).mono ?_
    rintro e w3 ⟨rfl, hb3⟩
    have LA3 := Lib.hid (LA2.out.below hb3)
    have LB3 := Lib.hid (LB2.out.below hb3)
    have B3 := Lib.hid (below_trans' B2.out B2.out.size hb3)
    have M3 := Lib.hid (HM.out.below B3.out HM.out.pos)
    clear c0 c1 c2 c3 c4 c5 hb3 LA2 LB2 B2
    rcases hmb : b.may with _ | _
    · go_wp2_with fail
      go_ret
      exact ⟨rfl, B3.out⟩
    · obtain ⟨c0, c1, c2, c3, c4, c5⟩ := LA3.out.cells
      obtain ⟨d0, d1, d2, d3, d4, d5⟩ := LB3.out.cells
      by_cases hmg : a.magic ≠ 0 ∧ a.magic = b.magic
      · have hz : (a.magic != 0) = true := by simpa using hmg.1
        have hq : (a.magic == b.magic) = true := by simpa using hmg.2
        clear hmg
        go_wp2_with fail
        go_ret
        exact ⟨rfl, B3.out⟩
      · have hab := Lib.hid (show magOk a b from fun h0 h1 => hmg ⟨h0, h1⟩)
        have hba := Lib.hid (show magOk b a from fun h0 h1 => hmg ⟨by rw [← h1]; exact h0, h1.symm⟩)
        have hor : (a.magic != 0) = false ∨ ((a.magic != 0) = true ∧ (a.magic == b.magic) = false) := by
          by_cases h0 : a.magic = 0
          · exact .inl (by simp [h0])
          · exact .inr ⟨by simpa using h0, by simpa using fun h => hmg ⟨h0, h⟩⟩
        clear hmg
        rcases hor with hz | ⟨hz, hq⟩
        all_goals
          go_wp2_with fail
          refine (New_yes a 10 _ (by simp [newFits, hma])).mono ?_
          rintro e w4 ⟨gx, tx, vx, rfl, hn4, hb4, hg4⟩
          clear c0 c1 c2 c3 c4 c5 d0 d1 d2 d3 d4 d5
          obtain ⟨d0, d1, d2, d3, d4, d5⟩ := (LB3.out.below hb4).cells
          have B4 := Lib.hid (below_trans' (Below.refl w3.heap.size w3) (Nat.le_refl _) hb4)
          have M4 := Lib.hid (M3.out.below hb4 M3.out.pos)
          have N4 := Lib.hid hn4
          clear hb4 hn4
          go_wp2_with fail
          refine (New_yes b 10 _ (by simp [newFits, hmb])).mono ?_
          rintro e w5 ⟨gy, ty, vy, rfl, hn5, hb5, hg5⟩
          clear d0 d1 d2 d3 d4 d5
          have hgl := N4.out.lt
          have T5 := Lib.hid (show TwoAt w3.heap.size w3 w5 gx tx vx (newD a 10) gy ty vy (newD b 10) from ⟨N4.out.below hb5, hn5, by omega, M4.out.below hb5 M4.out.pos, below_trans' B4.out B4.out.size hb5, Nat.le_trans B4.out.size hb5.size, hg4, Nat.le_trans B4.out.size hg5⟩)
          have HPOS := Lib.hid M3.out.pos
          clear hb5 hn5 hg5 hg4 hgl N4 B4 M4
          go_wp2_with (go_at_call 13; refine (num_any _ _).mono ?_; rintro e w' ⟨rfl, rfl⟩)
          have W6 := Lib.hid (show WiresAt w3.heap.size w3 ((w5.alloc (.cells #[.pointer (some ⟨gx, 0, none⟩), .pointer (some ⟨gy, 0, none⟩)] 26)).alloc (.cells #[.slice none 0 0, .slice none 0 0] 50)) w5.heap.size (w5.heap.size + 1) gx tx vx (newD a 10) gy ty vy (newD b 10) (.slice none 0 0) (.slice none 0 0) [] [] from
            ⟨T5.out.below (((Below.refl _ _).alloc (Nat.le_refl _) _).alloc (by simp) _), (Blk.new w5 26 #[.pointer (some ⟨gx, 0, none⟩), .pointer (some ⟨gy, 0, none⟩)]).alloc _,
              by have := Blk.new (w5.alloc (.cells #[.pointer (some ⟨gx, 0, none⟩), .pointer (some ⟨gy, 0, none⟩)] 26)) 50 #[.slice none 0 0, .slice none 0 0]; rwa [show (w5.alloc (.cells #[.pointer (some ⟨gx, 0, none⟩), .pointer (some ⟨gy, 0, none⟩)] 26)).heap.size = w5.heap.size + 1 by simp] at this,
              Pk.nil _ _, Pk.nil _ _, Apart.nil_left _, Nat.le_trans T5.out.bw (Nat.le_succ _), HPOS.out⟩)
          clear T5
          generalize w5.heap.size = gn at *
          have HGW := Lib.hid (rfl : gn + 1 = gn + 1)
          generalize gn + 1 = gw at *
          clear HGW
          go_loopw [13, 14, 15] (fun iv _ _ wr => ∃ (i : Nat) (x y : NegD) (W0 W1 : List PackD) (V0 V1 vx vy : Value), iv = .int .i64 i ∧ InitS a b i x y W0 W1 ∧ WiresAt w3.heap.size w3 wr gn gw gx tx vx x gy ty vy y V0 V1 W0 W1)
            (fun iv _ _ _ => 2 - (intOf iv).toNat)
          case atStart => exact ⟨0, _, _, _, _, _, _, vx, vy, rfl, .zero, W6.out⟩
          case round =>
            obtain ⟨i, x, y, W0, W1, V0, V1, vx, vy, rfl, hi, hw⟩ := hrel
            have HW := Lib.hid hw
            clear hw W6
            have HF := Lib.hid HW.out.wires.frozen
            cases hi with
            | zero =>
              have n0 : wr.cell? ⟨gn, 0, none⟩ = some (.pointer (some ⟨gx, 0, none⟩)) := HW.out.ns.cell 0
              go_wp2_with fail
              clear n0
              have HDO := Lib.hid (Do_took gx tx vx (newD a 10) 2 _ HW.out.two.nx HW.out.two.max)
              rw [open_newX] at HDO
              refine HDO.out.mono ?_
              clear HDO
              rintro e w7 ⟨⟨V7, v7, he, hn, hp⟩⟩
              simp only at he hn hp
              subst he
              have H7 := Lib.hid (HW.out.onX hn)
              clear hn hp
              have n0 : w7.cell? ⟨gn, 0, none⟩ = some (.pointer (some ⟨gx, 0, none⟩)) := H7.out.ns.cell 0
              go_wp2_with fail
              clear n0
              have HDO := Lib.hid (Do_took gx tx v7 _ 0 _ H7.out.two.nx H7.out.two.max)
              rw [up_newX] at HDO
              refine HDO.out.mono ?_
              clear HDO
              rintro e w8 ⟨⟨V8, v8, he, hn, hp⟩⟩
              simp only at he hn hp
              subst he
              have H8 := Lib.hid (H7.out.onX hn)
              have hbw8 := H7.out.two.bw
              obtain ⟨l8, hl8, hp8⟩ := hp.pk
              have HL8 := Lib.hid hl8
              have HP8 := Lib.hid hp8
              have HL81 := Lib.hid (show l8.length = 1 by rw [← List.length_map (f := Prod.fst), hl8]; rfl)
              clear hn hp hl8 hp8 H7
              obtain ⟨A8, c8, rfl, hc8, _, _⟩ := own_shape HP8.out.row
              have RT := Lib.hid (Reads.of_own HP8.out.row)
              obtain ⟨lo, hlo, hpo⟩ := H8.out.p1
              have HLO := Lib.hid hlo
              have HPO := Lib.hid hpo
              have HLO1 := Lib.hid (show lo.length = 0 by rw [← List.length_map (f := Prod.fst), hlo]; rfl)
              clear hlo hpo
              obtain ⟨Ao, co, rfl, hco, _, _⟩ := own_shape HPO.out.row
              have m0 : w8.cell? ⟨gw, 1, none⟩ = some (.slice Ao lo.length co) := H8.out.wires.cell 1
              have hfz := H8.out.wires.frozen
              obtain ⟨i0, hi0, hz0, hz1, hz2⟩ := info_parts Tryd.info41
              go_wp2_with (at_builtin; go_must (refine wpList_append_any _ rfl _ _ _ rfl w3.heap.size 41 i0 _ 4 56 Tryd.underlying32 hi0 hz0 hz1 hz2 rfl (by omega) (.slice Ao lo.length co) lo.length _ rfl HPO.out.row w8.heap.size A8 l8.length c8 (packCells l8) rfl RT.out (packCells_one HP8.out) (by simp only [maxLen]; have := HL81.out; have := HLO1.out; omega) (by have := HL81.out; have := HLO1.out; omega) H8.out.two.bw ?_); intro V9 w9 hown9 hg9 hat9; obtain ⟨A9, c9, rfl, hc9, -, -⟩ := own_shape hown9; have K9 := Lib.hid (H8.out.more1 hg9 (V1' := .slice A9 (lo.length + l8.length) c9) ⟨lo ++ l8, rfl, HPO.out.joined HP8.out hbw8 hg9 hown9⟩ hat9); have hfz := (blk_onto H8.out.wires HPO.out.row (by decide) hg9).frozen; have m9 : w9.cell? ⟨gw, 1, none⟩ = some (.slice Ao lo.length co) := (blk_onto H8.out.wires HPO.out.row (by decide) hg9).cell 1)
              have hk9 := K9.out
              rw [List.map_append, HLO.out, HL8.out] at hk9
              exact ⟨⟨_, _, _, _, _, _, _, _, _, by go_num, .one, hk9⟩, by simp [intOf]⟩
            | one =>
              have n0 : wr.cell? ⟨gn, 1, none⟩ = some (.pointer (some ⟨gy, 0, none⟩)) := HW.out.ns.cell 1
              go_wp2_with fail
              clear n0
              have HDO := Lib.hid (Do_took gy ty vy (newD b 10) 2 _ HW.out.two.ny HW.out.two.max)
              rw [open_newX] at HDO
              refine HDO.out.mono ?_
              clear HDO
              rintro e w7 ⟨⟨V7, v7, he, hn, hp⟩⟩
              simp only at he hn hp
              subst he
              have H7 := Lib.hid (HW.out.onY hn)
              clear hn hp
              have n0 : w7.cell? ⟨gn, 1, none⟩ = some (.pointer (some ⟨gy, 0, none⟩)) := H7.out.ns.cell 1
              go_wp2_with fail
              clear n0
              have HDO := Lib.hid (Do_took gy ty v7 _ 0 _ H7.out.two.ny H7.out.two.max)
              rw [up_newX] at HDO
              refine HDO.out.mono ?_
              clear HDO
              rintro e w8 ⟨⟨V8, v8, he, hn, hp⟩⟩
              simp only at he hn hp
              subst he
              have H8 := Lib.hid (H7.out.onY hn)
              have hbw8 := H7.out.two.bw
              obtain ⟨l8, hl8, hp8⟩ := hp.pk
              have HL8 := Lib.hid hl8
              have HP8 := Lib.hid hp8
              have HL81 := Lib.hid (show l8.length = 1 by rw [← List.length_map (f := Prod.fst), hl8]; rfl)
              clear hn hp hl8 hp8 H7
              obtain ⟨A8, c8, rfl, hc8, _, _⟩ := own_shape HP8.out.row
              have RT := Lib.hid (Reads.of_own HP8.out.row)
              obtain ⟨lo, hlo, hpo⟩ := H8.out.p0
              have HLO := Lib.hid hlo
              have HPO := Lib.hid hpo
              have HLO1 := Lib.hid (show lo.length = 0 by rw [← List.length_map (f := Prod.fst), hlo]; rfl)
              clear hlo hpo
              obtain ⟨Ao, co, rfl, hco, _, _⟩ := own_shape HPO.out.row
              have m0 : w8.cell? ⟨gw, 0, none⟩ = some (.slice Ao lo.length co) := H8.out.wires.cell 0
              have hfz := H8.out.wires.frozen
              obtain ⟨i0, hi0, hz0, hz1, hz2⟩ := info_parts Tryd.info41
              go_wp2_with (at_builtin; go_must (refine wpList_append_any _ rfl _ _ _ rfl w3.heap.size 41 i0 _ 4 56 Tryd.underlying32 hi0 hz0 hz1 hz2 rfl (by omega) (.slice Ao lo.length co) lo.length _ rfl HPO.out.row w8.heap.size A8 l8.length c8 (packCells l8) rfl RT.out (packCells_one HP8.out) (by simp only [maxLen]; have := HL81.out; have := HLO1.out; omega) (by have := HL81.out; have := HLO1.out; omega) H8.out.two.bw ?_); intro V9 w9 hown9 hg9 hat9; obtain ⟨A9, c9, rfl, hc9, -, -⟩ := own_shape hown9; have K9 := Lib.hid (H8.out.more0 hg9 (V0' := .slice A9 (lo.length + l8.length) c9) ⟨lo ++ l8, rfl, HPO.out.joined HP8.out hbw8 hg9 hown9⟩ hat9); have hfz := (blk_onto H8.out.wires HPO.out.row (by decide) hg9).frozen; have m9 : w9.cell? ⟨gw, 0, none⟩ = some (.slice Ao lo.length co) := (blk_onto H8.out.wires HPO.out.row (by decide) hg9).cell 0)
              have hk9 := K9.out
              rw [List.map_append, HLO.out, HL8.out] at hk9
              exact ⟨⟨_, _, _, _, _, _, _, _, _, by go_num, .two, hk9⟩, by simp [intOf]⟩
            | two =>
              obtain ⟨F, hF⟩ := flows_any hma hmb hab.out hba.out
              have HFT := Lib.hid hF
              have HFL := Lib.hid hF.flows
              have hst : WiresAt w3.heap.size w3 wr gn gw gx tx vx (F.xs 0) gy ty vy (F.ys 0) V0 V1 (F.wx 0 0) (F.wy 0 0) := by rw [hF.x0, hF.y0, hF.wx0, hF.wy0]; exact HW.out
              have HST := Lib.hid hst
              clear hF hst HW HF
              go_wp2_with fail
              go_loopw [6, 16, 17, 18, 19, 20] (fun _ iv _ _ _ _ wr => ∃ (m i j : Nat) (V0 V1 vx vy : Value), iv = .int .i64 m ∧ m = i + j ∧ i ≤ F.ax j ∧ j ≤ F.ay i ∧ WiresAt w3.heap.size w3 wr gn gw gx tx vx (F.xs i) gy ty vy (F.ys j) V0 V1 (F.wx i j) (F.wy i j))
                (fun _ iv _ _ _ _ _ => F.inX.length + F.inY.length - (intOf iv).toNat)
              case atStart => exact ⟨0, 0, 0, V0, V1, vx, vy, rfl, rfl, Nat.zero_le _, Nat.zero_le _, HST.out⟩
              case round =>
                obtain ⟨m, i, j, V0, V1, vx, vy, rfl, hmij, hix, hjy, hw⟩ := hrel
                have HW := Lib.hid hw
                have HMIJ := Lib.hid hmij
                obtain ⟨A0, n0, c0, rfl, hn0, hc0⟩ := hw.p0.shape2
                obtain ⟨A1, n1, c1, rfl, hn1, hc1⟩ := hw.p1.shape2
                have hl0 : n0 = F.ax j - i := hn0.trans (wire_len _ _ _ (HFL.out.lenX j))
                have hl1 : n1 = F.ay i - j := hn1.trans (wire_len _ _ _ (HFL.out.lenY i))
                have HN0 := Lib.hid hl0
                have HN1 := Lib.hid hl1
                have hax := HFL.out.lenX j
                have hay := HFL.out.lenY i
                have hmx := HFL.out.manyX
                have hmy := HFL.out.manyY
                have hm200 : (m : Int) < 200 := by omega
                have hw01 : IntKind.i64.wrap ((n0 : Int) + (n1 : Int)) = (n0 : Int) + (n1 : Int) := by rw [IntKind.wrap_i64]; omega
                have hle0 : n0 ≤ 4 := by omega
                have hle1 : n1 ≤ 4 := by omega
                have hcap0 : c0 ≤ maxLen := hw.p0.cap
                have hcap1 : c1 ≤ maxLen := hw.p1.cap
                have HFZ := Lib.hid hw.wires.frozen
                clear hw hmij hn0 hn1 hl0 hl1 HST hax hay hmx hmy
                by_cases hdone : n0 + n1 = 0
                · obtain rfl : n0 = 0 := by omega
                  obtain rfl : n1 = 0 := by omega
                  have hij := HFL.out.stop i j (by have := HFL.out.lenX j; omega) (by have := HFL.out.lenY i; omega) (by have := HN0.out; omega) (by have := HN1.out; omega)
                  have hend := HFT.out.ended
                  rw [← hij.1, ← hij.2] at hend
                  have s0 : wr.cell? ⟨gw, 0, none⟩ = some (.slice A0 0 c0) := HW.out.wires.cell 0
                  have s1 : wr.cell? ⟨gw, 1, none⟩ = some (.slice A1 0 c1) := HW.out.wires.cell 1
                  have HT := Lib.hid HW.out.two
                  clear hij HMIJ
                  generalize F.xs i = xe at HT hend
                  generalize F.ys j = ye at HT hend
                  have hst := State_any gx tx vx _ wr HT.out.nx
                  rw [hend.sx] at hst
                  have hst2 := State_any gy ty vy _ wr HT.out.ny
                  rw [hend.sy] at hst2
                  have ho1 := fun w' (hb : Below wr.heap.size wr w') => Other_any gx tx vx _ w' (HT.out.nx.below hb)
                  rw [hend.xy] at ho1
                  have ho2 := fun w' (hb : Below wr.heap.size wr w') => Own_any gy ty vy _ w' (HT.out.ny.below hb)
                  have ho3 := fun w' (hb : Below wr.heap.size wr w') => Other_any gy ty vy _ w' (HT.out.ny.below hb)
                  rw [hend.yx] at ho3
                  have ho4 := fun w' (hb : Below wr.heap.size wr w') => Own_any gx tx vx _ w' (HT.out.nx.below hb)
                  have HB0 := Lib.hid (below_trans' B3.out B3.out.size HT.out.b)
                  clear HT HW HFT HFL hend HN0 HN1
                  generalize ye.own = l at ho1 ho2
                  generalize xe.own = mm at ho3 ho4
                  have hee : ∀ (a : LinkD) w, (binOp .eql 23 (.agg #[.int .i64 a.mru, .int .i64 a.magic, .int .i64 a.mrru, .bool a.short, .string a.disc, .int .i64 a.num]) (.agg #[.int .i64 a.mru, .int .i64 a.magic, .int .i64 a.mrru, .bool a.short, .string a.disc, .int .i64 a.num])).run Tryd.prog w = .ok (.bool true) w := fun a w => by
                    have := link_eql a a w
                    rw [LinkD.eqB_iff] at this
                    simpa using this
                  have hel := hee l
                  have hem := hee mm
                  have HGT := Lib.hid (show Tryd.prog.eqGuardType Tryd.prog.depth 23 = false by kernel_rfl)
                  have HST := Lib.hid hst
                  have HST2 := Lib.hid hst2
                  have HO1 := Lib.hid ho1
                  have HO2 := Lib.hid ho2
                  have HO3 := Lib.hid ho3
                  have HO4 := Lib.hid ho4
                  clear hst hst2 ho1 ho2 ho3 ho4 hee
                  go_wp2_with (first | (refine wpList_eql HGT.out rfl rfl rfl rfl (hel _) ?_; clear hel) | (refine wpList_eql HGT.out rfl rfl rfl rfl (hem _) ?_; clear hem) | (go_at_call 16; first | (refine HST.out.mono ?_; rintro e w' ⟨rfl, rfl⟩; clear HST) | (refine HST2.out.mono ?_; rintro e w' ⟨rfl, rfl⟩)) | (go_at_call 22; refine (HO1.out _ (Below.refl _ _)).mono ?_; rintro e wa ⟨rfl, hA⟩; clear HO1) | (go_at_call 20; refine (HO2.out _ hA).mono ?_; rintro e wb ⟨rfl, hB⟩; have hAB := below_trans' hA hA.size hB; clear HO2) | (go_at_call 22; refine (HO3.out _ hAB).mono ?_; rintro e wc ⟨rfl, hC⟩; have hABC := below_trans' hAB hAB.size hC) | (go_at_call 20; refine (HO4.out _ hABC).mono ?_; rintro e wd ⟨rfl, hD⟩; have hABCD := below_trans' hABC hABC.size hD))
                  go_ret
                  exact ⟨rfl, below_trans' HB0.out HB0.out.size hABCD⟩
                · have hpos : (0 : Int) < (n0 : Int) + (n1 : Int) := by omega
                  by_cases hp : m < nk
                  · have hpi : (m : Int) < (nk : Int) := by omega
                    obtain ⟨ad, u, hA, -, hu, hcell⟩ := (HRK.out.below (below_trans' B3.out B3.out.size HW.out.two.b)).at_ hp
                    subst hA
                    obtain ⟨q, rfl⟩ : ∃ q : Int, u = .int .i64 q := by
                      simp only [intCells, List.getElem?_map] at hu
                      cases hz : zs[m]? with
                      | none => rw [hz] at hu; cases hu
                      | some q => rw [hz] at hu; exact ⟨q, by simpa using hu.symm⟩
                    clear hu
                    obtain ⟨k, hk, rfl | rfl⟩ := mask_one q
                    · by_cases hem : n0 = 0
                      · have HEM := Lib.hid hem
                        have hq : ((n0 : Int) == 0) = true := by simpa using hem
                        have hq2 : 0 < n1 := by omega
                        clear hem
                        have hlk : j < F.ay i := by have := HN1.out; omega
                        have hil : j < F.inY.length := Nat.lt_of_lt_of_le hlk (HFL.out.lenY i)
                        have P := HW.out.p1
                        rw [show F.wy i j = (F.inY[j]'hil) :: F.wy i (j + 1) from wire_head F.inY (F.ay i) j hlk (HFL.out.lenY i)] at P
                        have TK := Lib.hid (HFL.out.takeY j hil)
                        have hfit := HFL.out.fitY _ (List.getElem_mem hil)
                        generalize F.inY[j]'hil = p at P TK hfit
                        have HP := Lib.hid P
                        obtain ⟨b0, q0, u, e, -, p0, p1, p2, p3, ho⟩ := packs_head P
                        injection e with e1 e2 e3
                        subst e1 e3
                        have E2 := Lib.hid e2
                        obtain ⟨Ap, cp, rfl, hcp, _, _⟩ := own_shape ho
                        have HO := Lib.hid ho
                        clear P e2 ho hlk hil
                        have s0 : wr.cell? ⟨gw, 1, none⟩ = some (.slice (some ⟨b0, 0, none⟩) n1 c1) := HW.out.wires.cell 1
                        have s1 : wr.cell? ⟨gw, 0, none⟩ = some (.slice A0 n0 c0) := HW.out.wires.cell 0
                        have s2 : wr.cell? ⟨gn, 1, none⟩ = some (.pointer (some ⟨gy, 0, none⟩)) := HW.out.ns.cell 1
                        have z0 : ((wr.alloc (.cells #[.int .i64 p.code, .int .i64 p.id, .slice Ap p.opts.length cp, .string p.data] 41)).alloc (.cells #[] 41)).cell? ⟨gw, 1, none⟩ = some (.slice (some ⟨b0, 0, none⟩) n1 c1) := by
                          rw [World.cell?_alloc_lt _ _ _ (by simp; exact Nat.lt_succ_of_lt HW.out.wires.lt), World.cell?_alloc_lt _ _ _ HW.out.wires.lt]; exact s0
                        have hn1k : 1 ≤ n1 := by have := E2.out; omega
                        have hn1i : (1 : Int) ≤ (n1 : Int) := by omega
                        have hn1c : (1 : Int) ≤ (c1 : Int) := by omega
                        have hnci : (n1 : Int) ≤ (c1 : Int) := by omega
                        obtain ⟨l, hl, hpl⟩ := HP.out
                        obtain ⟨x0, l', rfl⟩ : ∃ x0 l', l = x0 :: l' := by
                          cases l with
                          | nil => cases hl
                          | cons x0 l' => exact ⟨x0, l', rfl⟩
                        simp only [List.map_cons, List.cons.injEq] at hl
                        obtain ⟨hl0, hlt⟩ := hl
                        have HLT := Lib.hid hlt
                        have HPL := Lib.hid hpl
                        have hln : (x0 :: l').length = n1 := by have := E2.out; rw [← hlt, List.length_map] at this; simp only [List.length_cons]; omega
                        have HLN := Lib.hid hln
                        have hrow := hpl.row
                        rw [hln] at hrow
                        have HD := Lib.hid (show Reads ((wr.alloc (.cells #[.int .i64 p.code, .int .i64 p.id, .slice Ap p.opts.length cp, .string p.data] 41)).alloc (.cells #[] 41)) wr.heap.size 4 (if c1 = 1 then some ⟨b0, 0, none⟩ else (some ⟨b0, 0, none⟩ : Option Addr).map (·.add (1 * 4))) (n1 - 1) (packCells l') from
                          (((Reads.of_own hrow).cut (k := 1) hn1k (by omega)).alloc (Nat.le_refl _) _).alloc (by simp) _)
                        have HOE := Lib.hid (show ((wr.alloc (.cells #[.int .i64 p.code, .int .i64 p.id, .slice Ap p.opts.length cp, .string p.data] 41)).alloc (.cells #[] 41)).ownsRow (wr.heap.size + 1) 41 4 (.slice (some ⟨wr.heap.size + 1, 0, none⟩) 0 0) 0 [] from
                          ⟨by simp, .inr ⟨wr.heap.size + 1, 0, #[], rfl, Nat.le_refl _, by have := heap_alloc_new (wr.alloc (.cells #[.int .i64 p.code, .int .i64 p.id, .slice Ap p.opts.length cp, .string p.data] 41)) (.cells #[] 41); rwa [show (wr.alloc (.cells #[.int .i64 p.code, .int .i64 p.id, .slice Ap p.opts.length cp, .string p.data] 41)).heap.size = wr.heap.size + 1 by simp] at this, Nat.le_refl _, Nat.zero_le _, by simp, by simp⟩⟩)
                        clear hl0 hlt hpl hln hrow
                        have HWE := Lib.hid (HW.out.below (((Below.refl wr.heap.size wr).alloc (Nat.le_refl _) (.cells #[.int .i64 p.code, .int .i64 p.id, .slice Ap p.opts.length cp, .string p.data] 41)).alloc (by simp) (.cells #[] 41)))
                        obtain ⟨i0, hi0, hz0, hz1, hz2⟩ := info_parts Tryd.info41
                        go_wp2_with (at_builtin; go_must (refine wpList_append_any _ rfl _ _ _ rfl (wr.heap.size + 1) 41 i0 _ 4 56 Tryd.underlying32 hi0 hz0 hz1 hz2 rfl (by omega) (.slice (some ⟨wr.heap.size + 1, 0, none⟩) 0 0) 0 [] rfl HOE.out wr.heap.size _ _ _ (packCells l') rfl HD.out (packCells_tail HPL.out) (by simp only [maxLen]; omega) (by omega) (by simp) ?_); intro V5 w5' hown5 hg5 hat5; rw [Nat.zero_add] at hown5; have HAT := Lib.hid hat5; clear hat5; generalize (if c1 = 1 then (some ⟨b0, 0, none⟩ : Option Addr) else _) = Z5; obtain ⟨A5, c5, rfl, hc5, -, -⟩ := own_shape hown5; have hfz := (blk_onto HWE.out.wires HOE.out (by decide) hg5).frozen; have m9 : w5'.cell? ⟨gw, 1, none⟩ = some (.slice (some ⟨b0, 0, none⟩) n1 c1) := (blk_onto HWE.out.wires HOE.out (by decide) hg5).cell 1)
                        have HV := Lib.hid (HWE.out.onto HOE.out (Nat.le_succ_of_le HW.out.two.bw) hg5 (fresh_apart HW.out.p0 (fun g hg => by simp [Value.ownBlock] at hg; omega)) (fresh_apart HW.out.p1 (fun g hg => by simp [Value.ownBlock] at hg; omega)))
                        have P5 := Lib.hid (show Pk w5' w3.heap.size (.slice A5 (n1 - 1) c5) (F.wy i (j + 1)) from by
                          refine ⟨l', HLT.out, own_base (by have e : l'.length = n1 - 1 := (by have := HLN.out; simp only [List.length_cons] at this; omega); rw [e]; exact hown5) (Nat.le_succ_of_le HW.out.two.bw), fun x hx => ?_, fun x _ => nilS_apart _⟩
                          exact own_onto (own_below (HPL.out.rows x (List.mem_cons_of_mem _ hx)) (((Below.refl wr.heap.size wr).alloc (Nat.le_refl _) _).alloc (by simp) _)) HOE.out (by decide) hg5)
                        have AP5 := Lib.hid (show Apart (.slice A5 (n1 - 1) c5) (.slice A0 n0 c0) from fresh_apart HW.out.p0 (fun g hg => by
                          rcases HAT.out with h | h
                          · rw [h] at hg; simp [Value.ownBlock] at hg; omega
                          · rw [h] at hg; simp at hg; omega))
                        have HV2 := Lib.hid (HV.out.set1 P5.out AP5.out.symm)
                        have KP := Lib.hid (Blk.far (((Blk.new wr 41 #[.int .i64 p.code, .int .i64 p.id, .slice Ap p.opts.length cp, .string p.data]).alloc (.cells #[] 41)).grown hg5 (by simp [Value.ownBlock])) (p := ⟨gw, 1, none⟩) (by have := HW.out.wires.lt; simp; omega) (.slice A5 (n1 - 1) c5))
                        have HO5 := Lib.hid ((own_onto (own_below HO.out (((Below.refl wr.heap.size wr).alloc (Nat.le_refl _) _).alloc (by simp) _)) HOE.out (by decide) hg5).kept (only_setCell (World.grownBy.refl w5' _) (p := ⟨gw, 1, none⟩) (.inl rfl) (.slice A5 (n1 - 1) c5)) (.inr (own_blk_ne (own_onto (own_below HO.out (((Below.refl wr.heap.size wr).alloc (Nat.le_refl _) _).alloc (by simp) _)) HOE.out (by decide) hg5) HV.out.wires (by decide))))
                        have hzg : ¬ wr.heap.size = gy := by have := HW.out.two.ny.lt; omega
                        have hng : ¬ gn = gy := Blk.ne_ HW.out.ns HW.out.two.ny.blk (by decide)
                        clear s0 s1 s2 z0 p0 p1 p2 p3 hfz m9 hown5 hg5 HAT
                        generalize wr.heap.size = zp at *
                        generalize w5'.setCell ⟨gw, 1, none⟩ (.slice A5 (n1 - 1) c5) = WF at *
                        have qn := Turned.cell (g := gy) (show WF.cell? ⟨gn, 1, none⟩ = some (.pointer (some ⟨gy, 0, none⟩)) from HV2.out.ns.cell 1) hng
                        have qp0 := Turned.cell (g := gy) (show WF.cell? ⟨zp, 0, none⟩ = some (.int .i64 p.code) from KP.out.cell 0) hzg
                        have qp1 := Turned.cell (g := gy) (show WF.cell? ⟨zp, 1, none⟩ = some (.int .i64 p.id) from KP.out.cell 1) hzg
                        have qp2 := Turned.cell (g := gy) (show WF.cell? ⟨zp, 2, none⟩ = some (.slice Ap p.opts.length cp) from KP.out.cell 2) hzg
                        have qp3 := Turned.cell (g := gy) (show WF.cell? ⟨zp, 3, none⟩ = some (.string p.data) from KP.out.cell 3) hzg
                        refine wp_region_sched [(0, false), (1, false), (2, false), (3, false), (4, false), (5, true), (6, false), (7, false), (8, false), (9, false), (10, false)] (Turned.v (w := WF) (g := gy)) (nearC WF) (okay_turned (World.grownBy.refl _ _)) (by kernel_rfl) rfl (by kernel_rfl) (by kernel_rfl) ⟨⟨_, (Below.refl _ _).drew⟩, rfl⟩ ?_
                        iterate 5 (refine sched_quiet rfl (fun K hK => ?_); go_simp; first | (refine hK _ ?_; clear hK K) | (apply Exists.intro; refine ⟨fun _ => ?_, hK _ ?_⟩; (fail); clear hK K))
                        clear qn qp0 qp1 qp2 qp3
                        refine sched_eff rfl rfl (fun K hK w6 hw6 => ?_)
                        go_simp
                        obtain ⟨z, rfl⟩ := hw6
                        have H6 := Lib.hid (HV2.out.below z.below)
                        have HDO := Lib.hid (Take_took gy ty vy _ p Ap p.opts.length cp z.v H6.out.two.ny H6.out.two.max (Reads.of_own (own_below HO5.out z.below)) rfl (by have := hfit.len; omega) hfit.opts hfit.data)
                        rw [TK.out] at HDO
                        refine HDO.out.mono ?_
                        clear HDO
                        rintro e w7 ⟨⟨V7, v7, he, hn, hp⟩⟩
                        simp only at he hn hp
                        subst he
                        have H7 := Lib.hid (H6.out.onY hn)
                        have hW57 := grown_row (only_of_below z.below (some gy)) hn.grown
                        obtain ⟨l8, hl8, hp8⟩ := hp.pk
                        have HL8 := Lib.hid hl8
                        have HP8 := Lib.hid hp8
                        have hbz := H6.out.two.bw
                        obtain ⟨A8, c8, rfl, hc8, _, _⟩ := own_shape hp8.row
                        refine ⟨_, rfl, nearC w7, okay_turned hW57, nearC_self _, hK _ _ ?_⟩
                        clear hK K hn hp hW57 hl8 hp8 H6 HV2 HV HO5 KP
                        iterate 5 (refine sched_quiet rfl (fun K hK => ?_); go_simp; first | (refine hK _ ?_; clear hK K) | (apply Exists.intro; refine ⟨fun _ => ?_, hK _ ?_⟩; (fail); clear hK K))
                        refine sched_nil ?_
                        rintro w8 ⟨y8, rfl⟩
                        have H8 := Lib.hid (H7.out.below y8.below)
                        have HP9 := Lib.hid (HP8.out.below y8.below)
                        have hb9 : w3.heap.size ≤ z.v.heap.size := hbz
                        clear H7 HP8 hbz
                        generalize y8.v = w8 at *
                        have RT := Lib.hid (Reads.of_own HP9.out.row)
                        obtain ⟨lo, hlo, hpo⟩ := H8.out.p0
                        have HLO := Lib.hid hlo
                        have hlon : lo.length = n0 := by
                          obtain ⟨A', c', e', _, _, _⟩ := own_shape hpo.row
                          injection e' with e1 e2 e3
                          exact e2.symm
                        have HLON := Lib.hid hlon
                        have hrowo := hpo.row
                        rw [hlon] at hrowo
                        have HRO := Lib.hid hrowo
                        have HPO := Lib.hid hpo
                        clear hlo hpo hrowo hlon
                        have m0 : w8.cell? ⟨gw, 0, none⟩ = some (.slice A0 n0 c0) := H8.out.wires.cell 0
                        have hfz := H8.out.wires.frozen
                        have hl8n : l8.length ≤ 4 := by
                          have := congrArg List.length HL8.out
                          rw [List.length_map, wire_len _ _ _ (HFL.out.lenX _)] at this
                          have h1 := HFL.out.lenX (j + 1)
                          have h2 := HFL.out.manyX
                          omega
                        go_wp2_with (first | (go_at_call 13; refine (num_any _ _).mono ?_; rintro e w' ⟨rfl, rfl⟩) | (at_builtin; go_must (refine wpList_append_any _ rfl _ _ _ rfl w3.heap.size 41 i0 _ 4 56 Tryd.underlying32 hi0 hz0 hz1 hz2 rfl (by omega) (.slice A0 n0 c0) n0 _ rfl HRO.out w8.heap.size A8 l8.length c8 (packCells l8) rfl RT.out (packCells_one HP9.out) (by simp only [maxLen]; omega) (by omega) H8.out.two.bw ?_); intro V9 w9 hown9 hg9 hat9; have HAT9 := Lib.hid hat9; clear hat9; obtain ⟨A9, c9, rfl, hc9, -, -⟩ := own_shape hown9; have K9 := Lib.hid (H8.out.more0 hg9 (V0' := .slice A9 (n0 + l8.length) c9) ⟨lo ++ l8, rfl, HPO.out.joined HP9.out hb9 hg9 (by rw [HLON.out]; exact hown9)⟩ HAT9.out); have hfz := (blk_onto H8.out.wires HRO.out (by decide) hg9).frozen; have m9 : w9.cell? ⟨gw, 0, none⟩ = some (.slice A0 n0 c0) := (blk_onto H8.out.wires HRO.out (by decide) hg9).cell 0))
                        have hk9 := K9.out
                        rw [List.map_append, HLO.out, HL8.out] at hk9
                        have hlk : j < F.ay i := by have := HN1.out; omega
                        have hwm := wire_more (F.inX) (F.ax j) (F.ax (j + 1)) i hix (HFL.out.monoX _) (HFL.out.lenX _)
                        have hmn := HFL.out.monoX j
                        have hmij := HMIJ.out
                        refine ⟨?_, by have h1 := HFL.out.lenY i; have h2 := HFL.out.lenX j; simp [intOf]; omega⟩
                        iterate 72 apply Exists.intro
                        refine And.intro ?_ rfl
                        exact ⟨m + 1, i, j + 1, _, _, _, _, by go_num, by omega, by omega, by omega, by rw [show F.wx i (j + 1) = _ from hwm.symm]; exact hk9⟩

                      · have hq : ((n0 : Int) == 0) = false := by simpa using hem
                        have hlk : i < F.ax j := by have := HN0.out; omega
                        have hil : i < F.inX.length := Nat.lt_of_lt_of_le hlk (HFL.out.lenX j)
                        have P := HW.out.p0
                        rw [show F.wx i j = (F.inX[i]'hil) :: F.wx (i + 1) j from wire_head F.inX (F.ax j) i hlk (HFL.out.lenX j)] at P
                        have TK := Lib.hid (HFL.out.takeX i hil)
                        have hfit := HFL.out.fitX _ (List.getElem_mem hil)
                        generalize F.inX[i]'hil = p at P TK hfit
                        have HP := Lib.hid P
                        obtain ⟨b0, q0, u, e, -, p0, p1, p2, p3, ho⟩ := packs_head P
                        injection e with e1 e2 e3
                        subst e1 e3
                        have E2 := Lib.hid e2
                        obtain ⟨Ap, cp, rfl, hcp, _, _⟩ := own_shape ho
                        have HO := Lib.hid ho
                        clear P e2 ho hlk hil
                        have s0 : wr.cell? ⟨gw, 0, none⟩ = some (.slice (some ⟨b0, 0, none⟩) n0 c0) := HW.out.wires.cell 0
                        have s1 : wr.cell? ⟨gw, 1, none⟩ = some (.slice A1 n1 c1) := HW.out.wires.cell 1
                        have s2 : wr.cell? ⟨gn, 0, none⟩ = some (.pointer (some ⟨gx, 0, none⟩)) := HW.out.ns.cell 0
                        have z0 : ((wr.alloc (.cells #[.int .i64 p.code, .int .i64 p.id, .slice Ap p.opts.length cp, .string p.data] 41)).alloc (.cells #[] 41)).cell? ⟨gw, 0, none⟩ = some (.slice (some ⟨b0, 0, none⟩) n0 c0) := by
                          rw [World.cell?_alloc_lt _ _ _ (by simp; exact Nat.lt_succ_of_lt HW.out.wires.lt), World.cell?_alloc_lt _ _ _ HW.out.wires.lt]; exact s0
                        have hn1k : 1 ≤ n0 := by have := E2.out; omega
                        have hn1i : (1 : Int) ≤ (n0 : Int) := by omega
                        have hn1c : (1 : Int) ≤ (c0 : Int) := by omega
                        have hnci : (n0 : Int) ≤ (c0 : Int) := by omega
                        obtain ⟨l, hl, hpl⟩ := HP.out
                        obtain ⟨x0, l', rfl⟩ : ∃ x0 l', l = x0 :: l' := by
                          cases l with
                          | nil => cases hl
                          | cons x0 l' => exact ⟨x0, l', rfl⟩
                        simp only [List.map_cons, List.cons.injEq] at hl
                        obtain ⟨hl0, hlt⟩ := hl
                        have HLT := Lib.hid hlt
                        have HPL := Lib.hid hpl
                        have hln : (x0 :: l').length = n0 := by have := E2.out; rw [← hlt, List.length_map] at this; simp only [List.length_cons]; omega
                        have HLN := Lib.hid hln
                        have hrow := hpl.row
                        rw [hln] at hrow
                        have HD := Lib.hid (show Reads ((wr.alloc (.cells #[.int .i64 p.code, .int .i64 p.id, .slice Ap p.opts.length cp, .string p.data] 41)).alloc (.cells #[] 41)) wr.heap.size 4 (if c0 = 1 then some ⟨b0, 0, none⟩ else (some ⟨b0, 0, none⟩ : Option Addr).map (·.add (1 * 4))) (n0 - 1) (packCells l') from
                          (((Reads.of_own hrow).cut (k := 1) hn1k (by omega)).alloc (Nat.le_refl _) _).alloc (by simp) _)
                        have HOE := Lib.hid (show ((wr.alloc (.cells #[.int .i64 p.code, .int .i64 p.id, .slice Ap p.opts.length cp, .string p.data] 41)).alloc (.cells #[] 41)).ownsRow (wr.heap.size + 1) 41 4 (.slice (some ⟨wr.heap.size + 1, 0, none⟩) 0 0) 0 [] from
                          ⟨by simp, .inr ⟨wr.heap.size + 1, 0, #[], rfl, Nat.le_refl _, by have := heap_alloc_new (wr.alloc (.cells #[.int .i64 p.code, .int .i64 p.id, .slice Ap p.opts.length cp, .string p.data] 41)) (.cells #[] 41); rwa [show (wr.alloc (.cells #[.int .i64 p.code, .int .i64 p.id, .slice Ap p.opts.length cp, .string p.data] 41)).heap.size = wr.heap.size + 1 by simp] at this, Nat.le_refl _, Nat.zero_le _, by simp, by simp⟩⟩)
                        clear hl0 hlt hpl hln hrow
                        have HWE := Lib.hid (HW.out.below (((Below.refl wr.heap.size wr).alloc (Nat.le_refl _) (.cells #[.int .i64 p.code, .int .i64 p.id, .slice Ap p.opts.length cp, .string p.data] 41)).alloc (by simp) (.cells #[] 41)))
                        obtain ⟨i0, hi0, hz0, hz1, hz2⟩ := info_parts Tryd.info41
                        go_wp2_with (at_builtin; go_must (refine wpList_append_any _ rfl _ _ _ rfl (wr.heap.size + 1) 41 i0 _ 4 56 Tryd.underlying32 hi0 hz0 hz1 hz2 rfl (by omega) (.slice (some ⟨wr.heap.size + 1, 0, none⟩) 0 0) 0 [] rfl HOE.out wr.heap.size _ _ _ (packCells l') rfl HD.out (packCells_tail HPL.out) (by simp only [maxLen]; omega) (by omega) (by simp) ?_); intro V5 w5' hown5 hg5 hat5; rw [Nat.zero_add] at hown5; have HAT := Lib.hid hat5; clear hat5; generalize (if c0 = 1 then (some ⟨b0, 0, none⟩ : Option Addr) else _) = Z5; obtain ⟨A5, c5, rfl, hc5, -, -⟩ := own_shape hown5; have hfz := (blk_onto HWE.out.wires HOE.out (by decide) hg5).frozen; have m9 : w5'.cell? ⟨gw, 0, none⟩ = some (.slice (some ⟨b0, 0, none⟩) n0 c0) := (blk_onto HWE.out.wires HOE.out (by decide) hg5).cell 0)
                        have HV := Lib.hid (HWE.out.onto HOE.out (Nat.le_succ_of_le HW.out.two.bw) hg5 (fresh_apart HW.out.p0 (fun g hg => by simp [Value.ownBlock] at hg; omega)) (fresh_apart HW.out.p1 (fun g hg => by simp [Value.ownBlock] at hg; omega)))
                        have P5 := Lib.hid (show Pk w5' w3.heap.size (.slice A5 (n0 - 1) c5) (F.wx (i + 1) j) from by
                          refine ⟨l', HLT.out, own_base (by have e : l'.length = n0 - 1 := (by have := HLN.out; simp only [List.length_cons] at this; omega); rw [e]; exact hown5) (Nat.le_succ_of_le HW.out.two.bw), fun x hx => ?_, fun x _ => nilS_apart _⟩
                          exact own_onto (own_below (HPL.out.rows x (List.mem_cons_of_mem _ hx)) (((Below.refl wr.heap.size wr).alloc (Nat.le_refl _) _).alloc (by simp) _)) HOE.out (by decide) hg5)
                        have AP5 := Lib.hid (show Apart (.slice A5 (n0 - 1) c5) (.slice A1 n1 c1) from fresh_apart HW.out.p1 (fun g hg => by
                          rcases HAT.out with h | h
                          · rw [h] at hg; simp [Value.ownBlock] at hg; omega
                          · rw [h] at hg; simp at hg; omega))
                        have HV2 := Lib.hid (HV.out.set0 P5.out AP5.out)
                        have KP := Lib.hid (Blk.far (((Blk.new wr 41 #[.int .i64 p.code, .int .i64 p.id, .slice Ap p.opts.length cp, .string p.data]).alloc (.cells #[] 41)).grown hg5 (by simp [Value.ownBlock])) (p := ⟨gw, 0, none⟩) (by have := HW.out.wires.lt; simp; omega) (.slice A5 (n0 - 1) c5))
                        have HO5 := Lib.hid ((own_onto (own_below HO.out (((Below.refl wr.heap.size wr).alloc (Nat.le_refl _) _).alloc (by simp) _)) HOE.out (by decide) hg5).kept (only_setCell (World.grownBy.refl w5' _) (p := ⟨gw, 0, none⟩) (.inl rfl) (.slice A5 (n0 - 1) c5)) (.inr (own_blk_ne (own_onto (own_below HO.out (((Below.refl wr.heap.size wr).alloc (Nat.le_refl _) _).alloc (by simp) _)) HOE.out (by decide) hg5) HV.out.wires (by decide))))
                        have hzg : ¬ wr.heap.size = gx := by have := HW.out.two.nx.lt; omega
                        have hng : ¬ gn = gx := Blk.ne_ HW.out.ns HW.out.two.nx.blk (by decide)
                        clear s0 s1 s2 z0 p0 p1 p2 p3 hfz m9 hown5 hg5 HAT
                        generalize wr.heap.size = zp at *
                        generalize w5'.setCell ⟨gw, 0, none⟩ (.slice A5 (n0 - 1) c5) = WF at *
                        have qn := Turned.cell (g := gx) (show WF.cell? ⟨gn, 0, none⟩ = some (.pointer (some ⟨gx, 0, none⟩)) from HV2.out.ns.cell 0) hng
                        have qp0 := Turned.cell (g := gx) (show WF.cell? ⟨zp, 0, none⟩ = some (.int .i64 p.code) from KP.out.cell 0) hzg
                        have qp1 := Turned.cell (g := gx) (show WF.cell? ⟨zp, 1, none⟩ = some (.int .i64 p.id) from KP.out.cell 1) hzg
                        have qp2 := Turned.cell (g := gx) (show WF.cell? ⟨zp, 2, none⟩ = some (.slice Ap p.opts.length cp) from KP.out.cell 2) hzg
                        have qp3 := Turned.cell (g := gx) (show WF.cell? ⟨zp, 3, none⟩ = some (.string p.data) from KP.out.cell 3) hzg
                        refine wp_region_sched [(0, false), (1, false), (2, false), (3, false), (4, false), (5, true), (6, false), (7, false), (8, false), (9, false), (10, false)] (Turned.v (w := WF) (g := gx)) (nearC WF) (okay_turned (World.grownBy.refl _ _)) (by kernel_rfl) rfl (by kernel_rfl) (by kernel_rfl) ⟨⟨_, (Below.refl _ _).drew⟩, rfl⟩ ?_
                        iterate 5 (refine sched_quiet rfl (fun K hK => ?_); go_simp; first | (refine hK _ ?_; clear hK K) | (apply Exists.intro; refine ⟨fun _ => ?_, hK _ ?_⟩; (fail); clear hK K))
                        clear qn qp0 qp1 qp2 qp3
                        refine sched_eff rfl rfl (fun K hK w6 hw6 => ?_)
                        go_simp
                        obtain ⟨z, rfl⟩ := hw6
                        have H6 := Lib.hid (HV2.out.below z.below)
                        have HDO := Lib.hid (Take_took gx tx vx _ p Ap p.opts.length cp z.v H6.out.two.nx H6.out.two.max (Reads.of_own (own_below HO5.out z.below)) rfl (by have := hfit.len; omega) hfit.opts hfit.data)
                        rw [TK.out] at HDO
                        refine HDO.out.mono ?_
                        clear HDO
                        rintro e w7 ⟨⟨V7, v7, he, hn, hp⟩⟩
                        simp only at he hn hp
                        subst he
                        have H7 := Lib.hid (H6.out.onX hn)
                        have hW57 := grown_row (only_of_below z.below (some gx)) hn.grown
                        obtain ⟨l8, hl8, hp8⟩ := hp.pk
                        have HL8 := Lib.hid hl8
                        have HP8 := Lib.hid hp8
                        have hbz := H6.out.two.bw
                        obtain ⟨A8, c8, rfl, hc8, _, _⟩ := own_shape hp8.row
                        refine ⟨_, rfl, nearC w7, okay_turned hW57, nearC_self _, hK _ _ ?_⟩
                        clear hK K hn hp hW57 hl8 hp8 H6 HV2 HV HO5 KP
                        iterate 5 (refine sched_quiet rfl (fun K hK => ?_); go_simp; first | (refine hK _ ?_; clear hK K) | (apply Exists.intro; refine ⟨fun _ => ?_, hK _ ?_⟩; (fail); clear hK K))
                        refine sched_nil ?_
                        rintro w8 ⟨y8, rfl⟩
                        have H8 := Lib.hid (H7.out.below y8.below)
                        have HP9 := Lib.hid (HP8.out.below y8.below)
                        have hb9 : w3.heap.size ≤ z.v.heap.size := hbz
                        clear H7 HP8 hbz
                        generalize y8.v = w8 at *
                        have RT := Lib.hid (Reads.of_own HP9.out.row)
                        obtain ⟨lo, hlo, hpo⟩ := H8.out.p1
                        have HLO := Lib.hid hlo
                        have hlon : lo.length = n1 := by
                          obtain ⟨A', c', e', _, _, _⟩ := own_shape hpo.row
                          injection e' with e1 e2 e3
                          exact e2.symm
                        have HLON := Lib.hid hlon
                        have hrowo := hpo.row
                        rw [hlon] at hrowo
                        have HRO := Lib.hid hrowo
                        have HPO := Lib.hid hpo
                        clear hlo hpo hrowo hlon
                        have m0 : w8.cell? ⟨gw, 1, none⟩ = some (.slice A1 n1 c1) := H8.out.wires.cell 1
                        have hfz := H8.out.wires.frozen
                        have hl8n : l8.length ≤ 4 := by
                          have := congrArg List.length HL8.out
                          rw [List.length_map, wire_len _ _ _ (HFL.out.lenY _)] at this
                          have h1 := HFL.out.lenY (i + 1)
                          have h2 := HFL.out.manyY
                          omega
                        go_wp2_with (first | (go_at_call 13; refine (num_any _ _).mono ?_; rintro e w' ⟨rfl, rfl⟩) | (at_builtin; go_must (refine wpList_append_any _ rfl _ _ _ rfl w3.heap.size 41 i0 _ 4 56 Tryd.underlying32 hi0 hz0 hz1 hz2 rfl (by omega) (.slice A1 n1 c1) n1 _ rfl HRO.out w8.heap.size A8 l8.length c8 (packCells l8) rfl RT.out (packCells_one HP9.out) (by simp only [maxLen]; omega) (by omega) H8.out.two.bw ?_); intro V9 w9 hown9 hg9 hat9; have HAT9 := Lib.hid hat9; clear hat9; obtain ⟨A9, c9, rfl, hc9, -, -⟩ := own_shape hown9; have K9 := Lib.hid (H8.out.more1 hg9 (V1' := .slice A9 (n1 + l8.length) c9) ⟨lo ++ l8, rfl, HPO.out.joined HP9.out hb9 hg9 (by rw [HLON.out]; exact hown9)⟩ HAT9.out); have hfz := (blk_onto H8.out.wires HRO.out (by decide) hg9).frozen; have m9 : w9.cell? ⟨gw, 1, none⟩ = some (.slice A1 n1 c1) := (blk_onto H8.out.wires HRO.out (by decide) hg9).cell 1))
                        have hk9 := K9.out
                        rw [List.map_append, HLO.out, HL8.out] at hk9
                        have hlk : i < F.ax j := by have := HN0.out; omega
                        have hwm := wire_more (F.inY) (F.ay i) (F.ay (i + 1)) j hjy (HFL.out.monoY _) (HFL.out.lenY _)
                        have hmn := HFL.out.monoY i
                        have hmij := HMIJ.out
                        refine ⟨?_, by have h1 := HFL.out.lenX j; have h2 := HFL.out.lenY i; simp [intOf]; omega⟩
                        iterate 72 apply Exists.intro
                        refine And.intro ?_ rfl
                        exact ⟨m + 1, i + 1, j, _, _, _, _, by go_num, by omega, by omega, by omega, by rw [show F.wy (i + 1) j = _ from hwm.symm]; exact hk9⟩
                    · by_cases hem : n1 = 0
                      · have HEM := Lib.hid hem
                        have hq : ((n1 : Int) == 0) = true := by simpa using hem
                        have hq2 : 0 < n0 := by omega
                        clear hem
                        have hlk : i < F.ax j := by have := HN0.out; omega
                        have hil : i < F.inX.length := Nat.lt_of_lt_of_le hlk (HFL.out.lenX j)
                        have P := HW.out.p0
                        rw [show F.wx i j = (F.inX[i]'hil) :: F.wx (i + 1) j from wire_head F.inX (F.ax j) i hlk (HFL.out.lenX j)] at P
                        have TK := Lib.hid (HFL.out.takeX i hil)
                        have hfit := HFL.out.fitX _ (List.getElem_mem hil)
                        generalize F.inX[i]'hil = p at P TK hfit
                        have HP := Lib.hid P
                        obtain ⟨b0, q0, u, e, -, p0, p1, p2, p3, ho⟩ := packs_head P
                        injection e with e1 e2 e3
                        subst e1 e3
                        have E2 := Lib.hid e2
                        obtain ⟨Ap, cp, rfl, hcp, _, _⟩ := own_shape ho
                        have HO := Lib.hid ho
                        clear P e2 ho hlk hil
                        have s0 : wr.cell? ⟨gw, 0, none⟩ = some (.slice (some ⟨b0, 0, none⟩) n0 c0) := HW.out.wires.cell 0
                        have s1 : wr.cell? ⟨gw, 1, none⟩ = some (.slice A1 n1 c1) := HW.out.wires.cell 1
                        have s2 : wr.cell? ⟨gn, 0, none⟩ = some (.pointer (some ⟨gx, 0, none⟩)) := HW.out.ns.cell 0
                        have z0 : ((wr.alloc (.cells #[.int .i64 p.code, .int .i64 p.id, .slice Ap p.opts.length cp, .string p.data] 41)).alloc (.cells #[] 41)).cell? ⟨gw, 0, none⟩ = some (.slice (some ⟨b0, 0, none⟩) n0 c0) := by
                          rw [World.cell?_alloc_lt _ _ _ (by simp; exact Nat.lt_succ_of_lt HW.out.wires.lt), World.cell?_alloc_lt _ _ _ HW.out.wires.lt]; exact s0
                        have hn1k : 1 ≤ n0 := by have := E2.out; omega
                        have hn1i : (1 : Int) ≤ (n0 : Int) := by omega
                        have hn1c : (1 : Int) ≤ (c0 : Int) := by omega
                        have hnci : (n0 : Int) ≤ (c0 : Int) := by omega
                        obtain ⟨l, hl, hpl⟩ := HP.out
                        obtain ⟨x0, l', rfl⟩ : ∃ x0 l', l = x0 :: l' := by
                          cases l with
                          | nil => cases hl
                          | cons x0 l' => exact ⟨x0, l', rfl⟩
                        simp only [List.map_cons, List.cons.injEq] at hl
                        obtain ⟨hl0, hlt⟩ := hl
                        have HLT := Lib.hid hlt
                        have HPL := Lib.hid hpl
                        have hln : (x0 :: l').length = n0 := by have := E2.out; rw [← hlt, List.length_map] at this; simp only [List.length_cons]; omega
                        have HLN := Lib.hid hln
                        have hrow := hpl.row
                        rw [hln] at hrow
                        have HD := Lib.hid (show Reads ((wr.alloc (.cells #[.int .i64 p.code, .int .i64 p.id, .slice Ap p.opts.length cp, .string p.data] 41)).alloc (.cells #[] 41)) wr.heap.size 4 (if c0 = 1 then some ⟨b0, 0, none⟩ else (some ⟨b0, 0, none⟩ : Option Addr).map (·.add (1 * 4))) (n0 - 1) (packCells l') from
                          (((Reads.of_own hrow).cut (k := 1) hn1k (by omega)).alloc (Nat.le_refl _) _).alloc (by simp) _)
                        have HOE := Lib.hid (show ((wr.alloc (.cells #[.int .i64 p.code, .int .i64 p.id, .slice Ap p.opts.length cp, .string p.data] 41)).alloc (.cells #[] 41)).ownsRow (wr.heap.size + 1) 41 4 (.slice (some ⟨wr.heap.size + 1, 0, none⟩) 0 0) 0 [] from
                          ⟨by simp, .inr ⟨wr.heap.size + 1, 0, #[], rfl, Nat.le_refl _, by have := heap_alloc_new (wr.alloc (.cells #[.int .i64 p.code, .int .i64 p.id, .slice Ap p.opts.length cp, .string p.data] 41)) (.cells #[] 41); rwa [show (wr.alloc (.cells #[.int .i64 p.code, .int .i64 p.id, .slice Ap p.opts.length cp, .string p.data] 41)).heap.size = wr.heap.size + 1 by simp] at this, Nat.le_refl _, Nat.zero_le _, by simp, by simp⟩⟩)
                        clear hl0 hlt hpl hln hrow
                        have HWE := Lib.hid (HW.out.below (((Below.refl wr.heap.size wr).alloc (Nat.le_refl _) (.cells #[.int .i64 p.code, .int .i64 p.id, .slice Ap p.opts.length cp, .string p.data] 41)).alloc (by simp) (.cells #[] 41)))
                        obtain ⟨i0, hi0, hz0, hz1, hz2⟩ := info_parts Tryd.info41
                        go_wp2_with (at_builtin; go_must (refine wpList_append_any _ rfl _ _ _ rfl (wr.heap.size + 1) 41 i0 _ 4 56 Tryd.underlying32 hi0 hz0 hz1 hz2 rfl (by omega) (.slice (some ⟨wr.heap.size + 1, 0, none⟩) 0 0) 0 [] rfl HOE.out wr.heap.size _ _ _ (packCells l') rfl HD.out (packCells_tail HPL.out) (by simp only [maxLen]; omega) (by omega) (by simp) ?_); intro V5 w5' hown5 hg5 hat5; rw [Nat.zero_add] at hown5; have HAT := Lib.hid hat5; clear hat5; generalize (if c0 = 1 then (some ⟨b0, 0, none⟩ : Option Addr) else _) = Z5; obtain ⟨A5, c5, rfl, hc5, -, -⟩ := own_shape hown5; have hfz := (blk_onto HWE.out.wires HOE.out (by decide) hg5).frozen; have m9 : w5'.cell? ⟨gw, 0, none⟩ = some (.slice (some ⟨b0, 0, none⟩) n0 c0) := (blk_onto HWE.out.wires HOE.out (by decide) hg5).cell 0)
                        have HV := Lib.hid (HWE.out.onto HOE.out (Nat.le_succ_of_le HW.out.two.bw) hg5 (fresh_apart HW.out.p0 (fun g hg => by simp [Value.ownBlock] at hg; omega)) (fresh_apart HW.out.p1 (fun g hg => by simp [Value.ownBlock] at hg; omega)))
                        have P5 := Lib.hid (show Pk w5' w3.heap.size (.slice A5 (n0 - 1) c5) (F.wx (i + 1) j) from by
                          refine ⟨l', HLT.out, own_base (by have e : l'.length = n0 - 1 := (by have := HLN.out; simp only [List.length_cons] at this; omega); rw [e]; exact hown5) (Nat.le_succ_of_le HW.out.two.bw), fun x hx => ?_, fun x _ => nilS_apart _⟩
                          exact own_onto (own_below (HPL.out.rows x (List.mem_cons_of_mem _ hx)) (((Below.refl wr.heap.size wr).alloc (Nat.le_refl _) _).alloc (by simp) _)) HOE.out (by decide) hg5)
                        have AP5 := Lib.hid (show Apart (.slice A5 (n0 - 1) c5) (.slice A1 n1 c1) from fresh_apart HW.out.p1 (fun g hg => by
                          rcases HAT.out with h | h
                          · rw [h] at hg; simp [Value.ownBlock] at hg; omega
                          · rw [h] at hg; simp at hg; omega))
                        have HV2 := Lib.hid (HV.out.set0 P5.out AP5.out)
                        have KP := Lib.hid (Blk.far (((Blk.new wr 41 #[.int .i64 p.code, .int .i64 p.id, .slice Ap p.opts.length cp, .string p.data]).alloc (.cells #[] 41)).grown hg5 (by simp [Value.ownBlock])) (p := ⟨gw, 0, none⟩) (by have := HW.out.wires.lt; simp; omega) (.slice A5 (n0 - 1) c5))
                        have HO5 := Lib.hid ((own_onto (own_below HO.out (((Below.refl wr.heap.size wr).alloc (Nat.le_refl _) _).alloc (by simp) _)) HOE.out (by decide) hg5).kept (only_setCell (World.grownBy.refl w5' _) (p := ⟨gw, 0, none⟩) (.inl rfl) (.slice A5 (n0 - 1) c5)) (.inr (own_blk_ne (own_onto (own_below HO.out (((Below.refl wr.heap.size wr).alloc (Nat.le_refl _) _).alloc (by simp) _)) HOE.out (by decide) hg5) HV.out.wires (by decide))))
                        have hzg : ¬ wr.heap.size = gx := by have := HW.out.two.nx.lt; omega
                        have hng : ¬ gn = gx := Blk.ne_ HW.out.ns HW.out.two.nx.blk (by decide)
                        clear s0 s1 s2 z0 p0 p1 p2 p3 hfz m9 hown5 hg5 HAT
                        generalize wr.heap.size = zp at *
                        generalize w5'.setCell ⟨gw, 0, none⟩ (.slice A5 (n0 - 1) c5) = WF at *
                        have qn := Turned.cell (g := gx) (show WF.cell? ⟨gn, 0, none⟩ = some (.pointer (some ⟨gx, 0, none⟩)) from HV2.out.ns.cell 0) hng
                        have qp0 := Turned.cell (g := gx) (show WF.cell? ⟨zp, 0, none⟩ = some (.int .i64 p.code) from KP.out.cell 0) hzg
                        have qp1 := Turned.cell (g := gx) (show WF.cell? ⟨zp, 1, none⟩ = some (.int .i64 p.id) from KP.out.cell 1) hzg
                        have qp2 := Turned.cell (g := gx) (show WF.cell? ⟨zp, 2, none⟩ = some (.slice Ap p.opts.length cp) from KP.out.cell 2) hzg
                        have qp3 := Turned.cell (g := gx) (show WF.cell? ⟨zp, 3, none⟩ = some (.string p.data) from KP.out.cell 3) hzg
                        refine wp_region_sched [(0, false), (1, false), (2, false), (3, false), (4, false), (5, true), (6, false), (7, false), (8, false), (9, false), (10, false)] (Turned.v (w := WF) (g := gx)) (nearC WF) (okay_turned (World.grownBy.refl _ _)) (by kernel_rfl) rfl (by kernel_rfl) (by kernel_rfl) ⟨⟨_, (Below.refl _ _).drew⟩, rfl⟩ ?_
                        iterate 5 (refine sched_quiet rfl (fun K hK => ?_); go_simp; first | (refine hK _ ?_; clear hK K) | (apply Exists.intro; refine ⟨fun _ => ?_, hK _ ?_⟩; (fail); clear hK K))
                        clear qn qp0 qp1 qp2 qp3
                        refine sched_eff rfl rfl (fun K hK w6 hw6 => ?_)
                        go_simp
                        obtain ⟨z, rfl⟩ := hw6
                        have H6 := Lib.hid (HV2.out.below z.below)
                        have HDO := Lib.hid (Take_took gx tx vx _ p Ap p.opts.length cp z.v H6.out.two.nx H6.out.two.max (Reads.of_own (own_below HO5.out z.below)) rfl (by have := hfit.len; omega) hfit.opts hfit.data)
                        rw [TK.out] at HDO
                        refine HDO.out.mono ?_
                        clear HDO
                        rintro e w7 ⟨⟨V7, v7, he, hn, hp⟩⟩
                        simp only at he hn hp
                        subst he
                        have H7 := Lib.hid (H6.out.onX hn)
                        have hW57 := grown_row (only_of_below z.below (some gx)) hn.grown
                        obtain ⟨l8, hl8, hp8⟩ := hp.pk
                        have HL8 := Lib.hid hl8
                        have HP8 := Lib.hid hp8
                        have hbz := H6.out.two.bw
                        obtain ⟨A8, c8, rfl, hc8, _, _⟩ := own_shape hp8.row
                        refine ⟨_, rfl, nearC w7, okay_turned hW57, nearC_self _, hK _ _ ?_⟩
                        clear hK K hn hp hW57 hl8 hp8 H6 HV2 HV HO5 KP
                        iterate 5 (refine sched_quiet rfl (fun K hK => ?_); go_simp; first | (refine hK _ ?_; clear hK K) | (apply Exists.intro; refine ⟨fun _ => ?_, hK _ ?_⟩; (fail); clear hK K))
                        refine sched_nil ?_
                        rintro w8 ⟨y8, rfl⟩
                        have H8 := Lib.hid (H7.out.below y8.below)
                        have HP9 := Lib.hid (HP8.out.below y8.below)
                        have hb9 : w3.heap.size ≤ z.v.heap.size := hbz
                        clear H7 HP8 hbz
                        generalize y8.v = w8 at *
                        have RT := Lib.hid (Reads.of_own HP9.out.row)
                        obtain ⟨lo, hlo, hpo⟩ := H8.out.p1
                        have HLO := Lib.hid hlo
                        have hlon : lo.length = n1 := by
                          obtain ⟨A', c', e', _, _, _⟩ := own_shape hpo.row
                          injection e' with e1 e2 e3
                          exact e2.symm
                        have HLON := Lib.hid hlon
                        have hrowo := hpo.row
                        rw [hlon] at hrowo
                        have HRO := Lib.hid hrowo
                        have HPO := Lib.hid hpo
                        clear hlo hpo hrowo hlon
                        have m0 : w8.cell? ⟨gw, 1, none⟩ = some (.slice A1 n1 c1) := H8.out.wires.cell 1
                        have hfz := H8.out.wires.frozen
                        have hl8n : l8.length ≤ 4 := by
                          have := congrArg List.length HL8.out
                          rw [List.length_map, wire_len _ _ _ (HFL.out.lenY _)] at this
                          have h1 := HFL.out.lenY (i + 1)
                          have h2 := HFL.out.manyY
                          omega
                        go_wp2_with (first | (go_at_call 13; refine (num_any _ _).mono ?_; rintro e w' ⟨rfl, rfl⟩) | (at_builtin; go_must (refine wpList_append_any _ rfl _ _ _ rfl w3.heap.size 41 i0 _ 4 56 Tryd.underlying32 hi0 hz0 hz1 hz2 rfl (by omega) (.slice A1 n1 c1) n1 _ rfl HRO.out w8.heap.size A8 l8.length c8 (packCells l8) rfl RT.out (packCells_one HP9.out) (by simp only [maxLen]; omega) (by omega) H8.out.two.bw ?_); intro V9 w9 hown9 hg9 hat9; have HAT9 := Lib.hid hat9; clear hat9; obtain ⟨A9, c9, rfl, hc9, -, -⟩ := own_shape hown9; have K9 := Lib.hid (H8.out.more1 hg9 (V1' := .slice A9 (n1 + l8.length) c9) ⟨lo ++ l8, rfl, HPO.out.joined HP9.out hb9 hg9 (by rw [HLON.out]; exact hown9)⟩ HAT9.out); have hfz := (blk_onto H8.out.wires HRO.out (by decide) hg9).frozen; have m9 : w9.cell? ⟨gw, 1, none⟩ = some (.slice A1 n1 c1) := (blk_onto H8.out.wires HRO.out (by decide) hg9).cell 1))
                        have hk9 := K9.out
                        rw [List.map_append, HLO.out, HL8.out] at hk9
                        have hlk : i < F.ax j := by have := HN0.out; omega
                        have hwm := wire_more (F.inY) (F.ay i) (F.ay (i + 1)) j hjy (HFL.out.monoY _) (HFL.out.lenY _)
                        have hmn := HFL.out.monoY i
                        have hmij := HMIJ.out
                        refine ⟨?_, by have h1 := HFL.out.lenX j; have h2 := HFL.out.lenY i; simp [intOf]; omega⟩
                        iterate 72 apply Exists.intro
                        refine And.intro ?_ rfl
                        exact ⟨m + 1, i + 1, j, _, _, _, _, by go_num, by omega, by omega, by omega, by rw [show F.wy (i + 1) j = _ from hwm.symm]; exact hk9⟩

                      · have hq : ((n1 : Int) == 0) = false := by simpa using hem
                        have hlk : j < F.ay i := by have := HN1.out; omega
                        have hil : j < F.inY.length := Nat.lt_of_lt_of_le hlk (HFL.out.lenY i)
                        have P := HW.out.p1
                        rw [show F.wy i j = (F.inY[j]'hil) :: F.wy i (j + 1) from wire_head F.inY (F.ay i) j hlk (HFL.out.lenY i)] at P
                        have TK := Lib.hid (HFL.out.takeY j hil)
                        have hfit := HFL.out.fitY _ (List.getElem_mem hil)
                        generalize F.inY[j]'hil = p at P TK hfit
                        have HP := Lib.hid P
                        obtain ⟨b0, q0, u, e, -, p0, p1, p2, p3, ho⟩ := packs_head P
                        injection e with e1 e2 e3
                        subst e1 e3
                        have E2 := Lib.hid e2
                        obtain ⟨Ap, cp, rfl, hcp, _, _⟩ := own_shape ho
                        have HO := Lib.hid ho
                        clear P e2 ho hlk hil
                        have s0 : wr.cell? ⟨gw, 1, none⟩ = some (.slice (some ⟨b0, 0, none⟩) n1 c1) := HW.out.wires.cell 1
                        have s1 : wr.cell? ⟨gw, 0, none⟩ = some (.slice A0 n0 c0) := HW.out.wires.cell 0
                        have s2 : wr.cell? ⟨gn, 1, none⟩ = some (.pointer (some ⟨gy, 0, none⟩)) := HW.out.ns.cell 1
                        have z0 : ((wr.alloc (.cells #[.int .i64 p.code, .int .i64 p.id, .slice Ap p.opts.length cp, .string p.data] 41)).alloc (.cells #[] 41)).cell? ⟨gw, 1, none⟩ = some (.slice (some ⟨b0, 0, none⟩) n1 c1) := by
                          rw [World.cell?_alloc_lt _ _ _ (by simp; exact Nat.lt_succ_of_lt HW.out.wires.lt), World.cell?_alloc_lt _ _ _ HW.out.wires.lt]; exact s0
                        have hn1k : 1 ≤ n1 := by have := E2.out; omega
                        have hn1i : (1 : Int) ≤ (n1 : Int) := by omega
                        have hn1c : (1 : Int) ≤ (c1 : Int) := by omega
                        have hnci : (n1 : Int) ≤ (c1 : Int) := by omega
                        obtain ⟨l, hl, hpl⟩ := HP.out
                        obtain ⟨x0, l', rfl⟩ : ∃ x0 l', l = x0 :: l' := by
                          cases l with
                          | nil => cases hl
                          | cons x0 l' => exact ⟨x0, l', rfl⟩
                        simp only [List.map_cons, List.cons.injEq] at hl
                        obtain ⟨hl0, hlt⟩ := hl
                        have HLT := Lib.hid hlt
                        have HPL := Lib.hid hpl
                        have hln : (x0 :: l').length = n1 := by have := E2.out; rw [← hlt, List.length_map] at this; simp only [List.length_cons]; omega
                        have HLN := Lib.hid hln
                        have hrow := hpl.row
                        rw [hln] at hrow
                        have HD := Lib.hid (show Reads ((wr.alloc (.cells #[.int .i64 p.code, .int .i64 p.id, .slice Ap p.opts.length cp, .string p.data] 41)).alloc (.cells #[] 41)) wr.heap.size 4 (if c1 = 1 then some ⟨b0, 0, none⟩ else (some ⟨b0, 0, none⟩ : Option Addr).map (·.add (1 * 4))) (n1 - 1) (packCells l') from
                          (((Reads.of_own hrow).cut (k := 1) hn1k (by omega)).alloc (Nat.le_refl _) _).alloc (by simp) _)
                        have HOE := Lib.hid (show ((wr.alloc (.cells #[.int .i64 p.code, .int .i64 p.id, .slice Ap p.opts.length cp, .string p.data] 41)).alloc (.cells #[] 41)).ownsRow (wr.heap.size + 1) 41 4 (.slice (some ⟨wr.heap.size + 1, 0, none⟩) 0 0) 0 [] from
                          ⟨by simp, .inr ⟨wr.heap.size + 1, 0, #[], rfl, Nat.le_refl _, by have := heap_alloc_new (wr.alloc (.cells #[.int .i64 p.code, .int .i64 p.id, .slice Ap p.opts.length cp, .string p.data] 41)) (.cells #[] 41); rwa [show (wr.alloc (.cells #[.int .i64 p.code, .int .i64 p.id, .slice Ap p.opts.length cp, .string p.data] 41)).heap.size = wr.heap.size + 1 by simp] at this, Nat.le_refl _, Nat.zero_le _, by simp, by simp⟩⟩)
                        clear hl0 hlt hpl hln hrow
                        have HWE := Lib.hid (HW.out.below (((Below.refl wr.heap.size wr).alloc (Nat.le_refl _) (.cells #[.int .i64 p.code, .int .i64 p.id, .slice Ap p.opts.length cp, .string p.data] 41)).alloc (by simp) (.cells #[] 41)))
                        obtain ⟨i0, hi0, hz0, hz1, hz2⟩ := info_parts Tryd.info41
                        go_wp2_with (at_builtin; go_must (refine wpList_append_any _ rfl _ _ _ rfl (wr.heap.size + 1) 41 i0 _ 4 56 Tryd.underlying32 hi0 hz0 hz1 hz2 rfl (by omega) (.slice (some ⟨wr.heap.size + 1, 0, none⟩) 0 0) 0 [] rfl HOE.out wr.heap.size _ _ _ (packCells l') rfl HD.out (packCells_tail HPL.out) (by simp only [maxLen]; omega) (by omega) (by simp) ?_); intro V5 w5' hown5 hg5 hat5; rw [Nat.zero_add] at hown5; have HAT := Lib.hid hat5; clear hat5; generalize (if c1 = 1 then (some ⟨b0, 0, none⟩ : Option Addr) else _) = Z5; obtain ⟨A5, c5, rfl, hc5, -, -⟩ := own_shape hown5; have hfz := (blk_onto HWE.out.wires HOE.out (by decide) hg5).frozen; have m9 : w5'.cell? ⟨gw, 1, none⟩ = some (.slice (some ⟨b0, 0, none⟩) n1 c1) := (blk_onto HWE.out.wires HOE.out (by decide) hg5).cell 1)
                        have HV := Lib.hid (HWE.out.onto HOE.out (Nat.le_succ_of_le HW.out.two.bw) hg5 (fresh_apart HW.out.p0 (fun g hg => by simp [Value.ownBlock] at hg; omega)) (fresh_apart HW.out.p1 (fun g hg => by simp [Value.ownBlock] at hg; omega)))
                        have P5 := Lib.hid (show Pk w5' w3.heap.size (.slice A5 (n1 - 1) c5) (F.wy i (j + 1)) from by
                          refine ⟨l', HLT.out, own_base (by have e : l'.length = n1 - 1 := (by have := HLN.out; simp only [List.length_cons] at this; omega); rw [e]; exact hown5) (Nat.le_succ_of_le HW.out.two.bw), fun x hx => ?_, fun x _ => nilS_apart _⟩
                          exact own_onto (own_below (HPL.out.rows x (List.mem_cons_of_mem _ hx)) (((Below.refl wr.heap.size wr).alloc (Nat.le_refl _) _).alloc (by simp) _)) HOE.out (by decide) hg5)
                        have AP5 := Lib.hid (show Apart (.slice A5 (n1 - 1) c5) (.slice A0 n0 c0) from fresh_apart HW.out.p0 (fun g hg => by
                          rcases HAT.out with h | h
                          · rw [h] at hg; simp [Value.ownBlock] at hg; omega
                          · rw [h] at hg; simp at hg; omega))
                        have HV2 := Lib.hid (HV.out.set1 P5.out AP5.out.symm)
                        have KP := Lib.hid (Blk.far (((Blk.new wr 41 #[.int .i64 p.code, .int .i64 p.id, .slice Ap p.opts.length cp, .string p.data]).alloc (.cells #[] 41)).grown hg5 (by simp [Value.ownBlock])) (p := ⟨gw, 1, none⟩) (by have := HW.out.wires.lt; simp; omega) (.slice A5 (n1 - 1) c5))
                        have HO5 := Lib.hid ((own_onto (own_below HO.out (((Below.refl wr.heap.size wr).alloc (Nat.le_refl _) _).alloc (by simp) _)) HOE.out (by decide) hg5).kept (only_setCell (World.grownBy.refl w5' _) (p := ⟨gw, 1, none⟩) (.inl rfl) (.slice A5 (n1 - 1) c5)) (.inr (own_blk_ne (own_onto (own_below HO.out (((Below.refl wr.heap.size wr).alloc (Nat.le_refl _) _).alloc (by simp) _)) HOE.out (by decide) hg5) HV.out.wires (by decide))))
                        have hzg : ¬ wr.heap.size = gy := by have := HW.out.two.ny.lt; omega
                        have hng : ¬ gn = gy := Blk.ne_ HW.out.ns HW.out.two.ny.blk (by decide)
                        clear s0 s1 s2 z0 p0 p1 p2 p3 hfz m9 hown5 hg5 HAT
                        generalize wr.heap.size = zp at *
                        generalize w5'.setCell ⟨gw, 1, none⟩ (.slice A5 (n1 - 1) c5) = WF at *
                        have qn := Turned.cell (g := gy) (show WF.cell? ⟨gn, 1, none⟩ = some (.pointer (some ⟨gy, 0, none⟩)) from HV2.out.ns.cell 1) hng
                        have qp0 := Turned.cell (g := gy) (show WF.cell? ⟨zp, 0, none⟩ = some (.int .i64 p.code) from KP.out.cell 0) hzg
                        have qp1 := Turned.cell (g := gy) (show WF.cell? ⟨zp, 1, none⟩ = some (.int .i64 p.id) from KP.out.cell 1) hzg
                        have qp2 := Turned.cell (g := gy) (show WF.cell? ⟨zp, 2, none⟩ = some (.slice Ap p.opts.length cp) from KP.out.cell 2) hzg
                        have qp3 := Turned.cell (g := gy) (show WF.cell? ⟨zp, 3, none⟩ = some (.string p.data) from KP.out.cell 3) hzg
                        refine wp_region_sched [(0, false), (1, false), (2, false), (3, false), (4, false), (5, true), (6, false), (7, false), (8, false), (9, false), (10, false)] (Turned.v (w := WF) (g := gy)) (nearC WF) (okay_turned (World.grownBy.refl _ _)) (by kernel_rfl) rfl (by kernel_rfl) (by kernel_rfl) ⟨⟨_, (Below.refl _ _).drew⟩, rfl⟩ ?_
                        iterate 5 (refine sched_quiet rfl (fun K hK => ?_); go_simp; first | (refine hK _ ?_; clear hK K) | (apply Exists.intro; refine ⟨fun _ => ?_, hK _ ?_⟩; (fail); clear hK K))
                        clear qn qp0 qp1 qp2 qp3
                        refine sched_eff rfl rfl (fun K hK w6 hw6 => ?_)
                        go_simp
                        obtain ⟨z, rfl⟩ := hw6
                        have H6 := Lib.hid (HV2.out.below z.below)
                        have HDO := Lib.hid (Take_took gy ty vy _ p Ap p.opts.length cp z.v H6.out.two.ny H6.out.two.max (Reads.of_own (own_below HO5.out z.below)) rfl (by have := hfit.len; omega) hfit.opts hfit.data)
                        rw [TK.out] at HDO
                        refine HDO.out.mono ?_
                        clear HDO
                        rintro e w7 ⟨⟨V7, v7, he, hn, hp⟩⟩
                        simp only at he hn hp
                        subst he
                        have H7 := Lib.hid (H6.out.onY hn)
                        have hW57 := grown_row (only_of_below z.below (some gy)) hn.grown
                        obtain ⟨l8, hl8, hp8⟩ := hp.pk
                        have HL8 := Lib.hid hl8
                        have HP8 := Lib.hid hp8
                        have hbz := H6.out.two.bw
                        obtain ⟨A8, c8, rfl, hc8, _, _⟩ := own_shape hp8.row
                        refine ⟨_, rfl, nearC w7, okay_turned hW57, nearC_self _, hK _ _ ?_⟩
                        clear hK K hn hp hW57 hl8 hp8 H6 HV2 HV HO5 KP
                        iterate 5 (refine sched_quiet rfl (fun K hK => ?_); go_simp; first | (refine hK _ ?_; clear hK K) | (apply Exists.intro; refine ⟨fun _ => ?_, hK _ ?_⟩; (fail); clear hK K))
                        refine sched_nil ?_
                        rintro w8 ⟨y8, rfl⟩
                        have H8 := Lib.hid (H7.out.below y8.below)
                        have HP9 := Lib.hid (HP8.out.below y8.below)
                        have hb9 : w3.heap.size ≤ z.v.heap.size := hbz
                        clear H7 HP8 hbz
                        generalize y8.v = w8 at *
                        have RT := Lib.hid (Reads.of_own HP9.out.row)
                        obtain ⟨lo, hlo, hpo⟩ := H8.out.p0
                        have HLO := Lib.hid hlo
                        have hlon : lo.length = n0 := by
                          obtain ⟨A', c', e', _, _, _⟩ := own_shape hpo.row
                          injection e' with e1 e2 e3
                          exact e2.symm
                        have HLON := Lib.hid hlon
                        have hrowo := hpo.row
                        rw [hlon] at hrowo
                        have HRO := Lib.hid hrowo
                        have HPO := Lib.hid hpo
                        clear hlo hpo hrowo hlon
                        have m0 : w8.cell? ⟨gw, 0, none⟩ = some (.slice A0 n0 c0) := H8.out.wires.cell 0
                        have hfz := H8.out.wires.frozen
                        have hl8n : l8.length ≤ 4 := by
                          have := congrArg List.length HL8.out
                          rw [List.length_map, wire_len _ _ _ (HFL.out.lenX _)] at this
                          have h1 := HFL.out.lenX (j + 1)
                          have h2 := HFL.out.manyX
                          omega
                        go_wp2_with (first | (go_at_call 13; refine (num_any _ _).mono ?_; rintro e w' ⟨rfl, rfl⟩) | (at_builtin; go_must (refine wpList_append_any _ rfl _ _ _ rfl w3.heap.size 41 i0 _ 4 56 Tryd.underlying32 hi0 hz0 hz1 hz2 rfl (by omega) (.slice A0 n0 c0) n0 _ rfl HRO.out w8.heap.size A8 l8.length c8 (packCells l8) rfl RT.out (packCells_one HP9.out) (by simp only [maxLen]; omega) (by omega) H8.out.two.bw ?_); intro V9 w9 hown9 hg9 hat9; have HAT9 := Lib.hid hat9; clear hat9; obtain ⟨A9, c9, rfl, hc9, -, -⟩ := own_shape hown9; have K9 := Lib.hid (H8.out.more0 hg9 (V0' := .slice A9 (n0 + l8.length) c9) ⟨lo ++ l8, rfl, HPO.out.joined HP9.out hb9 hg9 (by rw [HLON.out]; exact hown9)⟩ HAT9.out); have hfz := (blk_onto H8.out.wires HRO.out (by decide) hg9).frozen; have m9 : w9.cell? ⟨gw, 0, none⟩ = some (.slice A0 n0 c0) := (blk_onto H8.out.wires HRO.out (by decide) hg9).cell 0))
                        have hk9 := K9.out
                        rw [List.map_append, HLO.out, HL8.out] at hk9
                        have hlk : j < F.ay i := by have := HN1.out; omega
                        have hwm := wire_more (F.inX) (F.ax j) (F.ax (j + 1)) i hix (HFL.out.monoX _) (HFL.out.lenX _)
                        have hmn := HFL.out.monoX j
                        have hmij := HMIJ.out
                        refine ⟨?_, by have h1 := HFL.out.lenY i; have h2 := HFL.out.lenX j; simp [intOf]; omega⟩
                        iterate 72 apply Exists.intro
                        refine And.intro ?_ rfl
                        exact ⟨m + 1, i, j + 1, _, _, _, _, by go_num, by omega, by omega, by omega, by rw [show F.wx i (j + 1) = _ from hwm.symm]; exact hk9⟩
                  · have hpi : ¬ (m : Int) < (nk : Int) := by omega
                    obtain ⟨k, hk, rfl | rfl⟩ := mask_one (m : Int)
                    · by_cases hem : n0 = 0
                      · have HEM := Lib.hid hem
                        have hq : ((n0 : Int) == 0) = true := by simpa using hem
                        have hq2 : 0 < n1 := by omega
                        clear hem
                        have hlk : j < F.ay i := by have := HN1.out; omega
                        have hil : j < F.inY.length := Nat.lt_of_lt_of_le hlk (HFL.out.lenY i)
                        have P := HW.out.p1
                        rw [show F.wy i j = (F.inY[j]'hil) :: F.wy i (j + 1) from wire_head F.inY (F.ay i) j hlk (HFL.out.lenY i)] at P
                        have TK := Lib.hid (HFL.out.takeY j hil)
                        have hfit := HFL.out.fitY _ (List.getElem_mem hil)
                        generalize F.inY[j]'hil = p at P TK hfit
                        have HP := Lib.hid P
                        obtain ⟨b0, q0, u, e, -, p0, p1, p2, p3, ho⟩ := packs_head P
                        injection e with e1 e2 e3
                        subst e1 e3
                        have E2 := Lib.hid e2
                        obtain ⟨Ap, cp, rfl, hcp, _, _⟩ := own_shape ho
                        have HO := Lib.hid ho
                        clear P e2 ho hlk hil
                        have s0 : wr.cell? ⟨gw, 1, none⟩ = some (.slice (some ⟨b0, 0, none⟩) n1 c1) := HW.out.wires.cell 1
                        have s1 : wr.cell? ⟨gw, 0, none⟩ = some (.slice A0 n0 c0) := HW.out.wires.cell 0
                        have s2 : wr.cell? ⟨gn, 1, none⟩ = some (.pointer (some ⟨gy, 0, none⟩)) := HW.out.ns.cell 1
                        have z0 : ((wr.alloc (.cells #[.int .i64 p.code, .int .i64 p.id, .slice Ap p.opts.length cp, .string p.data] 41)).alloc (.cells #[] 41)).cell? ⟨gw, 1, none⟩ = some (.slice (some ⟨b0, 0, none⟩) n1 c1) := by
                          rw [World.cell?_alloc_lt _ _ _ (by simp; exact Nat.lt_succ_of_lt HW.out.wires.lt), World.cell?_alloc_lt _ _ _ HW.out.wires.lt]; exact s0
                        have hn1k : 1 ≤ n1 := by have := E2.out; omega
                        have hn1i : (1 : Int) ≤ (n1 : Int) := by omega
                        have hn1c : (1 : Int) ≤ (c1 : Int) := by omega
                        have hnci : (n1 : Int) ≤ (c1 : Int) := by omega
                        obtain ⟨l, hl, hpl⟩ := HP.out
                        obtain ⟨x0, l', rfl⟩ : ∃ x0 l', l = x0 :: l' := by
                          cases l with
                          | nil => cases hl
                          | cons x0 l' => exact ⟨x0, l', rfl⟩
                        simp only [List.map_cons, List.cons.injEq] at hl
                        obtain ⟨hl0, hlt⟩ := hl
                        have HLT := Lib.hid hlt
                        have HPL := Lib.hid hpl
                        have hln : (x0 :: l').length = n1 := by have := E2.out; rw [← hlt, List.length_map] at this; simp only [List.length_cons]; omega
                        have HLN := Lib.hid hln
                        have hrow := hpl.row
                        rw [hln] at hrow
                        have HD := Lib.hid (show Reads ((wr.alloc (.cells #[.int .i64 p.code, .int .i64 p.id, .slice Ap p.opts.length cp, .string p.data] 41)).alloc (.cells #[] 41)) wr.heap.size 4 (if c1 = 1 then some ⟨b0, 0, none⟩ else (some ⟨b0, 0, none⟩ : Option Addr).map (·.add (1 * 4))) (n1 - 1) (packCells l') from
                          (((Reads.of_own hrow).cut (k := 1) hn1k (by omega)).alloc (Nat.le_refl _) _).alloc (by simp) _)
                        have HOE := Lib.hid (show ((wr.alloc (.cells #[.int .i64 p.code, .int .i64 p.id, .slice Ap p.opts.length cp, .string p.data] 41)).alloc (.cells #[] 41)).ownsRow (wr.heap.size + 1) 41 4 (.slice (some ⟨wr.heap.size + 1, 0, none⟩) 0 0) 0 [] from
                          ⟨by simp, .inr ⟨wr.heap.size + 1, 0, #[], rfl, Nat.le_refl _, by have := heap_alloc_new (wr.alloc (.cells #[.int .i64 p.code, .int .i64 p.id, .slice Ap p.opts.length cp, .string p.data] 41)) (.cells #[] 41); rwa [show (wr.alloc (.cells #[.int .i64 p.code, .int .i64 p.id, .slice Ap p.opts.length cp, .string p.data] 41)).heap.size = wr.heap.size + 1 by simp] at this, Nat.le_refl _, Nat.zero_le _, by simp, by simp⟩⟩)
                        clear hl0 hlt hpl hln hrow
                        have HWE := Lib.hid (HW.out.below (((Below.refl wr.heap.size wr).alloc (Nat.le_refl _) (.cells #[.int .i64 p.code, .int .i64 p.id, .slice Ap p.opts.length cp, .string p.data] 41)).alloc (by simp) (.cells #[] 41)))
                        obtain ⟨i0, hi0, hz0, hz1, hz2⟩ := info_parts Tryd.info41
                        go_wp2_with (at_builtin; go_must (refine wpList_append_any _ rfl _ _ _ rfl (wr.heap.size + 1) 41 i0 _ 4 56 Tryd.underlying32 hi0 hz0 hz1 hz2 rfl (by omega) (.slice (some ⟨wr.heap.size + 1, 0, none⟩) 0 0) 0 [] rfl HOE.out wr.heap.size _ _ _ (packCells l') rfl HD.out (packCells_tail HPL.out) (by simp only [maxLen]; omega) (by omega) (by simp) ?_); intro V5 w5' hown5 hg5 hat5; rw [Nat.zero_add] at hown5; have HAT := Lib.hid hat5; clear hat5; generalize (if c1 = 1 then (some ⟨b0, 0, none⟩ : Option Addr) else _) = Z5; obtain ⟨A5, c5, rfl, hc5, -, -⟩ := own_shape hown5; have hfz := (blk_onto HWE.out.wires HOE.out (by decide) hg5).frozen; have m9 : w5'.cell? ⟨gw, 1, none⟩ = some (.slice (some ⟨b0, 0, none⟩) n1 c1) := (blk_onto HWE.out.wires HOE.out (by decide) hg5).cell 1)
                        have HV := Lib.hid (HWE.out.onto HOE.out (Nat.le_succ_of_le HW.out.two.bw) hg5 (fresh_apart HW.out.p0 (fun g hg => by simp [Value.ownBlock] at hg; omega)) (fresh_apart HW.out.p1 (fun g hg => by simp [Value.ownBlock] at hg; omega)))
                        have P5 := Lib.hid (show Pk w5' w3.heap.size (.slice A5 (n1 - 1) c5) (F.wy i (j + 1)) from by
                          refine ⟨l', HLT.out, own_base (by have e : l'.length = n1 - 1 := (by have := HLN.out; simp only [List.length_cons] at this; omega); rw [e]; exact hown5) (Nat.le_succ_of_le HW.out.two.bw), fun x hx => ?_, fun x _ => nilS_apart _⟩
                          exact own_onto (own_below (HPL.out.rows x (List.mem_cons_of_mem _ hx)) (((Below.refl wr.heap.size wr).alloc (Nat.le_refl _) _).alloc (by simp) _)) HOE.out (by decide) hg5)
                        have AP5 := Lib.hid (show Apart (.slice A5 (n1 - 1) c5) (.slice A0 n0 c0) from fresh_apart HW.out.p0 (fun g hg => by
                          rcases HAT.out with h | h
                          · rw [h] at hg; simp [Value.ownBlock] at hg; omega
                          · rw [h] at hg; simp at hg; omega))
                        have HV2 := Lib.hid (HV.out.set1 P5.out AP5.out.symm)
                        have KP := Lib.hid (Blk.far (((Blk.new wr 41 #[.int .i64 p.code, .int .i64 p.id, .slice Ap p.opts.length cp, .string p.data]).alloc (.cells #[] 41)).grown hg5 (by simp [Value.ownBlock])) (p := ⟨gw, 1, none⟩) (by have := HW.out.wires.lt; simp; omega) (.slice A5 (n1 - 1) c5))
                        have HO5 := Lib.hid ((own_onto (own_below HO.out (((Below.refl wr.heap.size wr).alloc (Nat.le_refl _) _).alloc (by simp) _)) HOE.out (by decide) hg5).kept (only_setCell (World.grownBy.refl w5' _) (p := ⟨gw, 1, none⟩) (.inl rfl) (.slice A5 (n1 - 1) c5)) (.inr (own_blk_ne (own_onto (own_below HO.out (((Below.refl wr.heap.size wr).alloc (Nat.le_refl _) _).alloc (by simp) _)) HOE.out (by decide) hg5) HV.out.wires (by decide))))
                        have hzg : ¬ wr.heap.size = gy := by have := HW.out.two.ny.lt; omega
                        have hng : ¬ gn = gy := Blk.ne_ HW.out.ns HW.out.two.ny.blk (by decide)
                        clear s0 s1 s2 z0 p0 p1 p2 p3 hfz m9 hown5 hg5 HAT
                        generalize wr.heap.size = zp at *
                        generalize w5'.setCell ⟨gw, 1, none⟩ (.slice A5 (n1 - 1) c5) = WF at *
                        have qn := Turned.cell (g := gy) (show WF.cell? ⟨gn, 1, none⟩ = some (.pointer (some ⟨gy, 0, none⟩)) from HV2.out.ns.cell 1) hng
                        have qp0 := Turned.cell (g := gy) (show WF.cell? ⟨zp, 0, none⟩ = some (.int .i64 p.code) from KP.out.cell 0) hzg
                        have qp1 := Turned.cell (g := gy) (show WF.cell? ⟨zp, 1, none⟩ = some (.int .i64 p.id) from KP.out.cell 1) hzg
                        have qp2 := Turned.cell (g := gy) (show WF.cell? ⟨zp, 2, none⟩ = some (.slice Ap p.opts.length cp) from KP.out.cell 2) hzg
                        have qp3 := Turned.cell (g := gy) (show WF.cell? ⟨zp, 3, none⟩ = some (.string p.data) from KP.out.cell 3) hzg
                        refine wp_region_sched [(0, false), (1, false), (2, false), (3, false), (4, false), (5, true), (6, false), (7, false), (8, false), (9, false), (10, false)] (Turned.v (w := WF) (g := gy)) (nearC WF) (okay_turned (World.grownBy.refl _ _)) (by kernel_rfl) rfl (by kernel_rfl) (by kernel_rfl) ⟨⟨_, (Below.refl _ _).drew⟩, rfl⟩ ?_
                        iterate 5 (refine sched_quiet rfl (fun K hK => ?_); go_simp; first | (refine hK _ ?_; clear hK K) | (apply Exists.intro; refine ⟨fun _ => ?_, hK _ ?_⟩; (fail); clear hK K))
                        clear qn qp0 qp1 qp2 qp3
                        refine sched_eff rfl rfl (fun K hK w6 hw6 => ?_)
                        go_simp
                        obtain ⟨z, rfl⟩ := hw6
                        have H6 := Lib.hid (HV2.out.below z.below)
                        have HDO := Lib.hid (Take_took gy ty vy _ p Ap p.opts.length cp z.v H6.out.two.ny H6.out.two.max (Reads.of_own (own_below HO5.out z.below)) rfl (by have := hfit.len; omega) hfit.opts hfit.data)
                        rw [TK.out] at HDO
                        refine HDO.out.mono ?_
                        clear HDO
                        rintro e w7 ⟨⟨V7, v7, he, hn, hp⟩⟩
                        simp only at he hn hp
                        subst he
                        have H7 := Lib.hid (H6.out.onY hn)
                        have hW57 := grown_row (only_of_below z.below (some gy)) hn.grown
                        obtain ⟨l8, hl8, hp8⟩ := hp.pk
                        have HL8 := Lib.hid hl8
                        have HP8 := Lib.hid hp8
                        have hbz := H6.out.two.bw
                        obtain ⟨A8, c8, rfl, hc8, _, _⟩ := own_shape hp8.row
                        refine ⟨_, rfl, nearC w7, okay_turned hW57, nearC_self _, hK _ _ ?_⟩
                        clear hK K hn hp hW57 hl8 hp8 H6 HV2 HV HO5 KP
                        iterate 5 (refine sched_quiet rfl (fun K hK => ?_); go_simp; first | (refine hK _ ?_; clear hK K) | (apply Exists.intro; refine ⟨fun _ => ?_, hK _ ?_⟩; (fail); clear hK K))
                        refine sched_nil ?_
                        rintro w8 ⟨y8, rfl⟩
                        have H8 := Lib.hid (H7.out.below y8.below)
                        have HP9 := Lib.hid (HP8.out.below y8.below)
                        have hb9 : w3.heap.size ≤ z.v.heap.size := hbz
                        clear H7 HP8 hbz
                        generalize y8.v = w8 at *
                        have RT := Lib.hid (Reads.of_own HP9.out.row)
                        obtain ⟨lo, hlo, hpo⟩ := H8.out.p0
                        have HLO := Lib.hid hlo
                        have hlon : lo.length = n0 := by
                          obtain ⟨A', c', e', _, _, _⟩ := own_shape hpo.row
                          injection e' with e1 e2 e3
                          exact e2.symm
                        have HLON := Lib.hid hlon
                        have hrowo := hpo.row
                        rw [hlon] at hrowo
                        have HRO := Lib.hid hrowo
                        have HPO := Lib.hid hpo
                        clear hlo hpo hrowo hlon
                        have m0 : w8.cell? ⟨gw, 0, none⟩ = some (.slice A0 n0 c0) := H8.out.wires.cell 0
                        have hfz := H8.out.wires.frozen
                        have hl8n : l8.length ≤ 4 := by
                          have := congrArg List.length HL8.out
                          rw [List.length_map, wire_len _ _ _ (HFL.out.lenX _)] at this
                          have h1 := HFL.out.lenX (j + 1)
                          have h2 := HFL.out.manyX
                          omega
                        go_wp2_with (first | (go_at_call 13; refine (num_any _ _).mono ?_; rintro e w' ⟨rfl, rfl⟩) | (at_builtin; go_must (refine wpList_append_any _ rfl _ _ _ rfl w3.heap.size 41 i0 _ 4 56 Tryd.underlying32 hi0 hz0 hz1 hz2 rfl (by omega) (.slice A0 n0 c0) n0 _ rfl HRO.out w8.heap.size A8 l8.length c8 (packCells l8) rfl RT.out (packCells_one HP9.out) (by simp only [maxLen]; omega) (by omega) H8.out.two.bw ?_); intro V9 w9 hown9 hg9 hat9; have HAT9 := Lib.hid hat9; clear hat9; obtain ⟨A9, c9, rfl, hc9, -, -⟩ := own_shape hown9; have K9 := Lib.hid (H8.out.more0 hg9 (V0' := .slice A9 (n0 + l8.length) c9) ⟨lo ++ l8, rfl, HPO.out.joined HP9.out hb9 hg9 (by rw [HLON.out]; exact hown9)⟩ HAT9.out); have hfz := (blk_onto H8.out.wires HRO.out (by decide) hg9).frozen; have m9 : w9.cell? ⟨gw, 0, none⟩ = some (.slice A0 n0 c0) := (blk_onto H8.out.wires HRO.out (by decide) hg9).cell 0))
                        have hk9 := K9.out
                        rw [List.map_append, HLO.out, HL8.out] at hk9
                        have hlk : j < F.ay i := by have := HN1.out; omega
                        have hwm := wire_more (F.inX) (F.ax j) (F.ax (j + 1)) i hix (HFL.out.monoX _) (HFL.out.lenX _)
                        have hmn := HFL.out.monoX j
                        have hmij := HMIJ.out
                        refine ⟨?_, by have h1 := HFL.out.lenY i; have h2 := HFL.out.lenX j; simp [intOf]; omega⟩
                        iterate 72 apply Exists.intro
                        refine And.intro ?_ rfl
                        exact ⟨m + 1, i, j + 1, _, _, _, _, by go_num, by omega, by omega, by omega, by rw [show F.wx i (j + 1) = _ from hwm.symm]; exact hk9⟩

                      · have hq : ((n0 : Int) == 0) = false := by simpa using hem
                        have hlk : i < F.ax j := by have := HN0.out; omega
                        have hil : i < F.inX.length := Nat.lt_of_lt_of_le hlk (HFL.out.lenX j)
                        have P := HW.out.p0
                        rw [show F.wx i j = (F.inX[i]'hil) :: F.wx (i + 1) j from wire_head F.inX (F.ax j) i hlk (HFL.out.lenX j)] at P
                        have TK := Lib.hid (HFL.out.takeX i hil)
                        have hfit := HFL.out.fitX _ (List.getElem_mem hil)
                        generalize F.inX[i]'hil = p at P TK hfit
                        have HP := Lib.hid P
                        obtain ⟨b0, q0, u, e, -, p0, p1, p2, p3, ho⟩ := packs_head P
                        injection e with e1 e2 e3
                        subst e1 e3
                        have E2 := Lib.hid e2
                        obtain ⟨Ap, cp, rfl, hcp, _, _⟩ := own_shape ho
                        have HO := Lib.hid ho
                        clear P e2 ho hlk hil
                        have s0 : wr.cell? ⟨gw, 0, none⟩ = some (.slice (some ⟨b0, 0, none⟩) n0 c0) := HW.out.wires.cell 0
                        have s1 : wr.cell? ⟨gw, 1, none⟩ = some (.slice A1 n1 c1) := HW.out.wires.cell 1
                        have s2 : wr.cell? ⟨gn, 0, none⟩ = some (.pointer (some ⟨gx, 0, none⟩)) := HW.out.ns.cell 0
                        have z0 : ((wr.alloc (.cells #[.int .i64 p.code, .int .i64 p.id, .slice Ap p.opts.length cp, .string p.data] 41)).alloc (.cells #[] 41)).cell? ⟨gw, 0, none⟩ = some (.slice (some ⟨b0, 0, none⟩) n0 c0) := by
                          rw [World.cell?_alloc_lt _ _ _ (by simp; exact Nat.lt_succ_of_lt HW.out.wires.lt), World.cell?_alloc_lt _ _ _ HW.out.wires.lt]; exact s0
                        have hn1k : 1 ≤ n0 := by have := E2.out; omega
                        have hn1i : (1 : Int) ≤ (n0 : Int) := by omega
                        have hn1c : (1 : Int) ≤ (c0 : Int) := by omega
                        have hnci : (n0 : Int) ≤ (c0 : Int) := by omega
                        obtain ⟨l, hl, hpl⟩ := HP.out
                        obtain ⟨x0, l', rfl⟩ : ∃ x0 l', l = x0 :: l' := by
                          cases l with
                          | nil => cases hl
                          | cons x0 l' => exact ⟨x0, l', rfl⟩
                        simp only [List.map_cons, List.cons.injEq] at hl
                        obtain ⟨hl0, hlt⟩ := hl
                        have HLT := Lib.hid hlt
                        have HPL := Lib.hid hpl
                        have hln : (x0 :: l').length = n0 := by have := E2.out; rw [← hlt, List.length_map] at this; simp only [List.length_cons]; omega
                        have HLN := Lib.hid hln
                        have hrow := hpl.row
                        rw [hln] at hrow
                        have HD := Lib.hid (show Reads ((wr.alloc (.cells #[.int .i64 p.code, .int .i64 p.id, .slice Ap p.opts.length cp, .string p.data] 41)).alloc (.cells #[] 41)) wr.heap.size 4 (if c0 = 1 then some ⟨b0, 0, none⟩ else (some ⟨b0, 0, none⟩ : Option Addr).map (·.add (1 * 4))) (n0 - 1) (packCells l') from
                          (((Reads.of_own hrow).cut (k := 1) hn1k (by omega)).alloc (Nat.le_refl _) _).alloc (by simp) _)
                        have HOE := Lib.hid (show ((wr.alloc (.cells #[.int .i64 p.code, .int .i64 p.id, .slice Ap p.opts.length cp, .string p.data] 41)).alloc (.cells #[] 41)).ownsRow (wr.heap.size + 1) 41 4 (.slice (some ⟨wr.heap.size + 1, 0, none⟩) 0 0) 0 [] from
                          ⟨by simp, .inr ⟨wr.heap.size + 1, 0, #[], rfl, Nat.le_refl _, by have := heap_alloc_new (wr.alloc (.cells #[.int .i64 p.code, .int .i64 p.id, .slice Ap p.opts.length cp, .string p.data] 41)) (.cells #[] 41); rwa [show (wr.alloc (.cells #[.int .i64 p.code, .int .i64 p.id, .slice Ap p.opts.length cp, .string p.data] 41)).heap.size = wr.heap.size + 1 by simp] at this, Nat.le_refl _, Nat.zero_le _, by simp, by simp⟩⟩)
                        clear hl0 hlt hpl hln hrow
                        have HWE := Lib.hid (HW.out.below (((Below.refl wr.heap.size wr).alloc (Nat.le_refl _) (.cells #[.int .i64 p.code, .int .i64 p.id, .slice Ap p.opts.length cp, .string p.data] 41)).alloc (by simp) (.cells #[] 41)))
                        obtain ⟨i0, hi0, hz0, hz1, hz2⟩ := info_parts Tryd.info41
                        go_wp2_with (at_builtin; go_must (refine wpList_append_any _ rfl _ _ _ rfl (wr.heap.size + 1) 41 i0 _ 4 56 Tryd.underlying32 hi0 hz0 hz1 hz2 rfl (by omega) (.slice (some ⟨wr.heap.size + 1, 0, none⟩) 0 0) 0 [] rfl HOE.out wr.heap.size _ _ _ (packCells l') rfl HD.out (packCells_tail HPL.out) (by simp only [maxLen]; omega) (by omega) (by simp) ?_); intro V5 w5' hown5 hg5 hat5; rw [Nat.zero_add] at hown5; have HAT := Lib.hid hat5; clear hat5; generalize (if c0 = 1 then (some ⟨b0, 0, none⟩ : Option Addr) else _) = Z5; obtain ⟨A5, c5, rfl, hc5, -, -⟩ := own_shape hown5; have hfz := (blk_onto HWE.out.wires HOE.out (by decide) hg5).frozen; have m9 : w5'.cell? ⟨gw, 0, none⟩ = some (.slice (some ⟨b0, 0, none⟩) n0 c0) := (blk_onto HWE.out.wires HOE.out (by decide) hg5).cell 0)
                        have HV := Lib.hid (HWE.out.onto HOE.out (Nat.le_succ_of_le HW.out.two.bw) hg5 (fresh_apart HW.out.p0 (fun g hg => by simp [Value.ownBlock] at hg; omega)) (fresh_apart HW.out.p1 (fun g hg => by simp [Value.ownBlock] at hg; omega)))
                        have P5 := Lib.hid (show Pk w5' w3.heap.size (.slice A5 (n0 - 1) c5) (F.wx (i + 1) j) from by
                          refine ⟨l', HLT.out, own_base (by have e : l'.length = n0 - 1 := (by have := HLN.out; simp only [List.length_cons] at this; omega); rw [e]; exact hown5) (Nat.le_succ_of_le HW.out.two.bw), fun x hx => ?_, fun x _ => nilS_apart _⟩
                          exact own_onto (own_below (HPL.out.rows x (List.mem_cons_of_mem _ hx)) (((Below.refl wr.heap.size wr).alloc (Nat.le_refl _) _).alloc (by simp) _)) HOE.out (by decide) hg5)
                        have AP5 := Lib.hid (show Apart (.slice A5 (n0 - 1) c5) (.slice A1 n1 c1) from fresh_apart HW.out.p1 (fun g hg => by
                          rcases HAT.out with h | h
                          · rw [h] at hg; simp [Value.ownBlock] at hg; omega
                          · rw [h] at hg; simp at hg; omega))
                        have HV2 := Lib.hid (HV.out.set0 P5.out AP5.out)
                        have KP := Lib.hid (Blk.far (((Blk.new wr 41 #[.int .i64 p.code, .int .i64 p.id, .slice Ap p.opts.length cp, .string p.data]).alloc (.cells #[] 41)).grown hg5 (by simp [Value.ownBlock])) (p := ⟨gw, 0, none⟩) (by have := HW.out.wires.lt; simp; omega) (.slice A5 (n0 - 1) c5))
                        have HO5 := Lib.hid ((own_onto (own_below HO.out (((Below.refl wr.heap.size wr).alloc (Nat.le_refl _) _).alloc (by simp) _)) HOE.out (by decide) hg5).kept (only_setCell (World.grownBy.refl w5' _) (p := ⟨gw, 0, none⟩) (.inl rfl) (.slice A5 (n0 - 1) c5)) (.inr (own_blk_ne (own_onto (own_below HO.out (((Below.refl wr.heap.size wr).alloc (Nat.le_refl _) _).alloc (by simp) _)) HOE.out (by decide) hg5) HV.out.wires (by decide))))
                        have hzg : ¬ wr.heap.size = gx := by have := HW.out.two.nx.lt; omega
                        have hng : ¬ gn = gx := Blk.ne_ HW.out.ns HW.out.two.nx.blk (by decide)
                        clear s0 s1 s2 z0 p0 p1 p2 p3 hfz m9 hown5 hg5 HAT
                        generalize wr.heap.size = zp at *
                        generalize w5'.setCell ⟨gw, 0, none⟩ (.slice A5 (n0 - 1) c5) = WF at *
                        have qn := Turned.cell (g := gx) (show WF.cell? ⟨gn, 0, none⟩ = some (.pointer (some ⟨gx, 0, none⟩)) from HV2.out.ns.cell 0) hng
                        have qp0 := Turned.cell (g := gx) (show WF.cell? ⟨zp, 0, none⟩ = some (.int .i64 p.code) from KP.out.cell 0) hzg
                        have qp1 := Turned.cell (g := gx) (show WF.cell? ⟨zp, 1, none⟩ = some (.int .i64 p.id) from KP.out.cell 1) hzg
                        have qp2 := Turned.cell (g := gx) (show WF.cell? ⟨zp, 2, none⟩ = some (.slice Ap p.opts.length cp) from KP.out.cell 2) hzg
                        have qp3 := Turned.cell (g := gx) (show WF.cell? ⟨zp, 3, none⟩ = some (.string p.data) from KP.out.cell 3) hzg
                        refine wp_region_sched [(0, false), (1, false), (2, false), (3, false), (4, false), (5, true), (6, false), (7, false), (8, false), (9, false), (10, false)] (Turned.v (w := WF) (g := gx)) (nearC WF) (okay_turned (World.grownBy.refl _ _)) (by kernel_rfl) rfl (by kernel_rfl) (by kernel_rfl) ⟨⟨_, (Below.refl _ _).drew⟩, rfl⟩ ?_
                        iterate 5 (refine sched_quiet rfl (fun K hK => ?_); go_simp; first | (refine hK _ ?_; clear hK K) | (apply Exists.intro; refine ⟨fun _ => ?_, hK _ ?_⟩; (fail); clear hK K))
                        clear qn qp0 qp1 qp2 qp3
                        refine sched_eff rfl rfl (fun K hK w6 hw6 => ?_)
                        go_simp
                        obtain ⟨z, rfl⟩ := hw6
                        have H6 := Lib.hid (HV2.out.below z.below)
                        have HDO := Lib.hid (Take_took gx tx vx _ p Ap p.opts.length cp z.v H6.out.two.nx H6.out.two.max (Reads.of_own (own_below HO5.out z.below)) rfl (by have := hfit.len; omega) hfit.opts hfit.data)
                        rw [TK.out] at HDO
                        refine HDO.out.mono ?_
                        clear HDO
                        rintro e w7 ⟨⟨V7, v7, he, hn, hp⟩⟩
                        simp only at he hn hp
                        subst he
                        have H7 := Lib.hid (H6.out.onX hn)
                        have hW57 := grown_row (only_of_below z.below (some gx)) hn.grown
                        obtain ⟨l8, hl8, hp8⟩ := hp.pk
                        have HL8 := Lib.hid hl8
                        have HP8 := Lib.hid hp8
                        have hbz := H6.out.two.bw
                        obtain ⟨A8, c8, rfl, hc8, _, _⟩ := own_shape hp8.row
                        refine ⟨_, rfl, nearC w7, okay_turned hW57, nearC_self _, hK _ _ ?_⟩
                        clear hK K hn hp hW57 hl8 hp8 H6 HV2 HV HO5 KP
                        iterate 5 (refine sched_quiet rfl (fun K hK => ?_); go_simp; first | (refine hK _ ?_; clear hK K) | (apply Exists.intro; refine ⟨fun _ => ?_, hK _ ?_⟩; (fail); clear hK K))
                        refine sched_nil ?_
                        rintro w8 ⟨y8, rfl⟩
                        have H8 := Lib.hid (H7.out.below y8.below)
                        have HP9 := Lib.hid (HP8.out.below y8.below)
                        have hb9 : w3.heap.size ≤ z.v.heap.size := hbz
                        clear H7 HP8 hbz
                        generalize y8.v = w8 at *
                        have RT := Lib.hid (Reads.of_own HP9.out.row)
                        obtain ⟨lo, hlo, hpo⟩ := H8.out.p1
                        have HLO := Lib.hid hlo
                        have hlon : lo.length = n1 := by
                          obtain ⟨A', c', e', _, _, _⟩ := own_shape hpo.row
                          injection e' with e1 e2 e3
                          exact e2.symm
                        have HLON := Lib.hid hlon
                        have hrowo := hpo.row
                        rw [hlon] at hrowo
                        have HRO := Lib.hid hrowo
                        have HPO := Lib.hid hpo
                        clear hlo hpo hrowo hlon
                        have m0 : w8.cell? ⟨gw, 1, none⟩ = some (.slice A1 n1 c1) := H8.out.wires.cell 1
                        have hfz := H8.out.wires.frozen
                        have hl8n : l8.length ≤ 4 := by
                          have := congrArg List.length HL8.out
                          rw [List.length_map, wire_len _ _ _ (HFL.out.lenY _)] at this
                          have h1 := HFL.out.lenY (i + 1)
                          have h2 := HFL.out.manyY
                          omega
                        go_wp2_with (first | (go_at_call 13; refine (num_any _ _).mono ?_; rintro e w' ⟨rfl, rfl⟩) | (at_builtin; go_must (refine wpList_append_any _ rfl _ _ _ rfl w3.heap.size 41 i0 _ 4 56 Tryd.underlying32 hi0 hz0 hz1 hz2 rfl (by omega) (.slice A1 n1 c1) n1 _ rfl HRO.out w8.heap.size A8 l8.length c8 (packCells l8) rfl RT.out (packCells_one HP9.out) (by simp only [maxLen]; omega) (by omega) H8.out.two.bw ?_); intro V9 w9 hown9 hg9 hat9; have HAT9 := Lib.hid hat9; clear hat9; obtain ⟨A9, c9, rfl, hc9, -, -⟩ := own_shape hown9; have K9 := Lib.hid (H8.out.more1 hg9 (V1' := .slice A9 (n1 + l8.length) c9) ⟨lo ++ l8, rfl, HPO.out.joined HP9.out hb9 hg9 (by rw [HLON.out]; exact hown9)⟩ HAT9.out); have hfz := (blk_onto H8.out.wires HRO.out (by decide) hg9).frozen; have m9 : w9.cell? ⟨gw, 1, none⟩ = some (.slice A1 n1 c1) := (blk_onto H8.out.wires HRO.out (by decide) hg9).cell 1))
                        have hk9 := K9.out
                        rw [List.map_append, HLO.out, HL8.out] at hk9
                        have hlk : i < F.ax j := by have := HN0.out; omega
                        have hwm := wire_more (F.inY) (F.ay i) (F.ay (i + 1)) j hjy (HFL.out.monoY _) (HFL.out.lenY _)
                        have hmn := HFL.out.monoY i
                        have hmij := HMIJ.out
                        refine ⟨?_, by have h1 := HFL.out.lenX j; have h2 := HFL.out.lenY i; simp [intOf]; omega⟩
                        iterate 72 apply Exists.intro
                        refine And.intro ?_ rfl
                        exact ⟨m + 1, i + 1, j, _, _, _, _, by go_num, by omega, by omega, by omega, by rw [show F.wy (i + 1) j = _ from hwm.symm]; exact hk9⟩
                    · by_cases hem : n1 = 0
                      · have HEM := Lib.hid hem
                        have hq : ((n1 : Int) == 0) = true := by simpa using hem
                        have hq2 : 0 < n0 := by omega
                        clear hem
                        have hlk : i < F.ax j := by have := HN0.out; omega
                        have hil : i < F.inX.length := Nat.lt_of_lt_of_le hlk (HFL.out.lenX j)
                        have P := HW.out.p0
                        rw [show F.wx i j = (F.inX[i]'hil) :: F.wx (i + 1) j from wire_head F.inX (F.ax j) i hlk (HFL.out.lenX j)] at P
                        have TK := Lib.hid (HFL.out.takeX i hil)
                        have hfit := HFL.out.fitX _ (List.getElem_mem hil)
                        generalize F.inX[i]'hil = p at P TK hfit
                        have HP := Lib.hid P
                        obtain ⟨b0, q0, u, e, -, p0, p1, p2, p3, ho⟩ := packs_head P
                        injection e with e1 e2 e3
                        subst e1 e3
                        have E2 := Lib.hid e2
                        obtain ⟨Ap, cp, rfl, hcp, _, _⟩ := own_shape ho
                        have HO := Lib.hid ho
                        clear P e2 ho hlk hil
                        have s0 : wr.cell? ⟨gw, 0, none⟩ = some (.slice (some ⟨b0, 0, none⟩) n0 c0) := HW.out.wires.cell 0
                        have s1 : wr.cell? ⟨gw, 1, none⟩ = some (.slice A1 n1 c1) := HW.out.wires.cell 1
                        have s2 : wr.cell? ⟨gn, 0, none⟩ = some (.pointer (some ⟨gx, 0, none⟩)) := HW.out.ns.cell 0
                        have z0 : ((wr.alloc (.cells #[.int .i64 p.code, .int .i64 p.id, .slice Ap p.opts.length cp, .string p.data] 41)).alloc (.cells #[] 41)).cell? ⟨gw, 0, none⟩ = some (.slice (some ⟨b0, 0, none⟩) n0 c0) := by
                          rw [World.cell?_alloc_lt _ _ _ (by simp; exact Nat.lt_succ_of_lt HW.out.wires.lt), World.cell?_alloc_lt _ _ _ HW.out.wires.lt]; exact s0
                        have hn1k : 1 ≤ n0 := by have := E2.out; omega
                        have hn1i : (1 : Int) ≤ (n0 : Int) := by omega
                        have hn1c : (1 : Int) ≤ (c0 : Int) := by omega
                        have hnci : (n0 : Int) ≤ (c0 : Int) := by omega
                        obtain ⟨l, hl, hpl⟩ := HP.out
                        obtain ⟨x0, l', rfl⟩ : ∃ x0 l', l = x0 :: l' := by
                          cases l with
                          | nil => cases hl
                          | cons x0 l' => exact ⟨x0, l', rfl⟩
                        simp only [List.map_cons, List.cons.injEq] at hl
                        obtain ⟨hl0, hlt⟩ := hl
                        have HLT := Lib.hid hlt
                        have HPL := Lib.hid hpl
                        have hln : (x0 :: l').length = n0 := by have := E2.out; rw [← hlt, List.length_map] at this; simp only [List.length_cons]; omega
                        have HLN := Lib.hid hln
                        have hrow := hpl.row
                        rw [hln] at hrow
                        have HD := Lib.hid (show Reads ((wr.alloc (.cells #[.int .i64 p.code, .int .i64 p.id, .slice Ap p.opts.length cp, .string p.data] 41)).alloc (.cells #[] 41)) wr.heap.size 4 (if c0 = 1 then some ⟨b0, 0, none⟩ else (some ⟨b0, 0, none⟩ : Option Addr).map (·.add (1 * 4))) (n0 - 1) (packCells l') from
                          (((Reads.of_own hrow).cut (k := 1) hn1k (by omega)).alloc (Nat.le_refl _) _).alloc (by simp) _)
                        have HOE := Lib.hid (show ((wr.alloc (.cells #[.int .i64 p.code, .int .i64 p.id, .slice Ap p.opts.length cp, .string p.data] 41)).alloc (.cells #[] 41)).ownsRow (wr.heap.size + 1) 41 4 (.slice (some ⟨wr.heap.size + 1, 0, none⟩) 0 0) 0 [] from
                          ⟨by simp, .inr ⟨wr.heap.size + 1, 0, #[], rfl, Nat.le_refl _, by have := heap_alloc_new (wr.alloc (.cells #[.int .i64 p.code, .int .i64 p.id, .slice Ap p.opts.length cp, .string p.data] 41)) (.cells #[] 41); rwa [show (wr.alloc (.cells #[.int .i64 p.code, .int .i64 p.id, .slice Ap p.opts.length cp, .string p.data] 41)).heap.size = wr.heap.size + 1 by simp] at this, Nat.le_refl _, Nat.zero_le _, by simp, by simp⟩⟩)
                        clear hl0 hlt hpl hln hrow
                        have HWE := Lib.hid (HW.out.below (((Below.refl wr.heap.size wr).alloc (Nat.le_refl _) (.cells #[.int .i64 p.code, .int .i64 p.id, .slice Ap p.opts.length cp, .string p.data] 41)).alloc (by simp) (.cells #[] 41)))
                        obtain ⟨i0, hi0, hz0, hz1, hz2⟩ := info_parts Tryd.info41
                        go_wp2_with (at_builtin; go_must (refine wpList_append_any _ rfl _ _ _ rfl (wr.heap.size + 1) 41 i0 _ 4 56 Tryd.underlying32 hi0 hz0 hz1 hz2 rfl (by omega) (.slice (some ⟨wr.heap.size + 1, 0, none⟩) 0 0) 0 [] rfl HOE.out wr.heap.size _ _ _ (packCells l') rfl HD.out (packCells_tail HPL.out) (by simp only [maxLen]; omega) (by omega) (by simp) ?_); intro V5 w5' hown5 hg5 hat5; rw [Nat.zero_add] at hown5; have HAT := Lib.hid hat5; clear hat5; generalize (if c0 = 1 then (some ⟨b0, 0, none⟩ : Option Addr) else _) = Z5; obtain ⟨A5, c5, rfl, hc5, -, -⟩ := own_shape hown5; have hfz := (blk_onto HWE.out.wires HOE.out (by decide) hg5).frozen; have m9 : w5'.cell? ⟨gw, 0, none⟩ = some (.slice (some ⟨b0, 0, none⟩) n0 c0) := (blk_onto HWE.out.wires HOE.out (by decide) hg5).cell 0)
                        have HV := Lib.hid (HWE.out.onto HOE.out (Nat.le_succ_of_le HW.out.two.bw) hg5 (fresh_apart HW.out.p0 (fun g hg => by simp [Value.ownBlock] at hg; omega)) (fresh_apart HW.out.p1 (fun g hg => by simp [Value.ownBlock] at hg; omega)))
                        have P5 := Lib.hid (show Pk w5' w3.heap.size (.slice A5 (n0 - 1) c5) (F.wx (i + 1) j) from by
                          refine ⟨l', HLT.out, own_base (by have e : l'.length = n0 - 1 := (by have := HLN.out; simp only [List.length_cons] at this; omega); rw [e]; exact hown5) (Nat.le_succ_of_le HW.out.two.bw), fun x hx => ?_, fun x _ => nilS_apart _⟩
                          exact own_onto (own_below (HPL.out.rows x (List.mem_cons_of_mem _ hx)) (((Below.refl wr.heap.size wr).alloc (Nat.le_refl _) _).alloc (by simp) _)) HOE.out (by decide) hg5)
                        have AP5 := Lib.hid (show Apart (.slice A5 (n0 - 1) c5) (.slice A1 n1 c1) from fresh_apart HW.out.p1 (fun g hg => by
                          rcases HAT.out with h | h
                          · rw [h] at hg; simp [Value.ownBlock] at hg; omega
                          · rw [h] at hg; simp at hg; omega))
                        have HV2 := Lib.hid (HV.out.set0 P5.out AP5.out)
                        have KP := Lib.hid (Blk.far (((Blk.new wr 41 #[.int .i64 p.code, .int .i64 p.id, .slice Ap p.opts.length cp, .string p.data]).alloc (.cells #[] 41)).grown hg5 (by simp [Value.ownBlock])) (p := ⟨gw, 0, none⟩) (by have := HW.out.wires.lt; simp; omega) (.slice A5 (n0 - 1) c5))
                        have HO5 := Lib.hid ((own_onto (own_below HO.out (((Below.refl wr.heap.size wr).alloc (Nat.le_refl _) _).alloc (by simp) _)) HOE.out (by decide) hg5).kept (only_setCell (World.grownBy.refl w5' _) (p := ⟨gw, 0, none⟩) (.inl rfl) (.slice A5 (n0 - 1) c5)) (.inr (own_blk_ne (own_onto (own_below HO.out (((Below.refl wr.heap.size wr).alloc (Nat.le_refl _) _).alloc (by simp) _)) HOE.out (by decide) hg5) HV.out.wires (by decide))))
                        have hzg : ¬ wr.heap.size = gx := by have := HW.out.two.nx.lt; omega
                        have hng : ¬ gn = gx := Blk.ne_ HW.out.ns HW.out.two.nx.blk (by decide)
                        clear s0 s1 s2 z0 p0 p1 p2 p3 hfz m9 hown5 hg5 HAT
                        generalize wr.heap.size = zp at *
                        generalize w5'.setCell ⟨gw, 0, none⟩ (.slice A5 (n0 - 1) c5) = WF at *
                        have qn := Turned.cell (g := gx) (show WF.cell? ⟨gn, 0, none⟩ = some (.pointer (some ⟨gx, 0, none⟩)) from HV2.out.ns.cell 0) hng
                        have qp0 := Turned.cell (g := gx) (show WF.cell? ⟨zp, 0, none⟩ = some (.int .i64 p.code) from KP.out.cell 0) hzg
                        have qp1 := Turned.cell (g := gx) (show WF.cell? ⟨zp, 1, none⟩ = some (.int .i64 p.id) from KP.out.cell 1) hzg
                        have qp2 := Turned.cell (g := gx) (show WF.cell? ⟨zp, 2, none⟩ = some (.slice Ap p.opts.length cp) from KP.out.cell 2) hzg
                        have qp3 := Turned.cell (g := gx) (show WF.cell? ⟨zp, 3, none⟩ = some (.string p.data) from KP.out.cell 3) hzg
                        refine wp_region_sched [(0, false), (1, false), (2, false), (3, false), (4, false), (5, true), (6, false), (7, false), (8, false), (9, false), (10, false)] (Turned.v (w := WF) (g := gx)) (nearC WF) (okay_turned (World.grownBy.refl _ _)) (by kernel_rfl) rfl (by kernel_rfl) (by kernel_rfl) ⟨⟨_, (Below.refl _ _).drew⟩, rfl⟩ ?_
                        iterate 5 (refine sched_quiet rfl (fun K hK => ?_); go_simp; first | (refine hK _ ?_; clear hK K) | (apply Exists.intro; refine ⟨fun _ => ?_, hK _ ?_⟩; (fail); clear hK K))
                        clear qn qp0 qp1 qp2 qp3
                        refine sched_eff rfl rfl (fun K hK w6 hw6 => ?_)
                        go_simp
                        obtain ⟨z, rfl⟩ := hw6
                        have H6 := Lib.hid (HV2.out.below z.below)
                        have HDO := Lib.hid (Take_took gx tx vx _ p Ap p.opts.length cp z.v H6.out.two.nx H6.out.two.max (Reads.of_own (own_below HO5.out z.below)) rfl (by have := hfit.len; omega) hfit.opts hfit.data)
                        rw [TK.out] at HDO
                        refine HDO.out.mono ?_
                        clear HDO
                        rintro e w7 ⟨⟨V7, v7, he, hn, hp⟩⟩
                        simp only at he hn hp
                        subst he
                        have H7 := Lib.hid (H6.out.onX hn)
                        have hW57 := grown_row (only_of_below z.below (some gx)) hn.grown
                        obtain ⟨l8, hl8, hp8⟩ := hp.pk
                        have HL8 := Lib.hid hl8
                        have HP8 := Lib.hid hp8
                        have hbz := H6.out.two.bw
                        obtain ⟨A8, c8, rfl, hc8, _, _⟩ := own_shape hp8.row
                        refine ⟨_, rfl, nearC w7, okay_turned hW57, nearC_self _, hK _ _ ?_⟩
                        clear hK K hn hp hW57 hl8 hp8 H6 HV2 HV HO5 KP
                        iterate 5 (refine sched_quiet rfl (fun K hK => ?_); go_simp; first | (refine hK _ ?_; clear hK K) | (apply Exists.intro; refine ⟨fun _ => ?_, hK _ ?_⟩; (fail); clear hK K))
                        refine sched_nil ?_
                        rintro w8 ⟨y8, rfl⟩
                        have H8 := Lib.hid (H7.out.below y8.below)
                        have HP9 := Lib.hid (HP8.out.below y8.below)
                        have hb9 : w3.heap.size ≤ z.v.heap.size := hbz
                        clear H7 HP8 hbz
                        generalize y8.v = w8 at *
                        have RT := Lib.hid (Reads.of_own HP9.out.row)
                        obtain ⟨lo, hlo, hpo⟩ := H8.out.p1
                        have HLO := Lib.hid hlo
                        have hlon : lo.length = n1 := by
                          obtain ⟨A', c', e', _, _, _⟩ := own_shape hpo.row
                          injection e' with e1 e2 e3
                          exact e2.symm
                        have HLON := Lib.hid hlon
                        have hrowo := hpo.row
                        rw [hlon] at hrowo
                        have HRO := Lib.hid hrowo
                        have HPO := Lib.hid hpo
                        clear hlo hpo hrowo hlon
                        have m0 : w8.cell? ⟨gw, 1, none⟩ = some (.slice A1 n1 c1) := H8.out.wires.cell 1
                        have hfz := H8.out.wires.frozen
                        have hl8n : l8.length ≤ 4 := by
                          have := congrArg List.length HL8.out
                          rw [List.length_map, wire_len _ _ _ (HFL.out.lenY _)] at this
                          have h1 := HFL.out.lenY (i + 1)
                          have h2 := HFL.out.manyY
                          omega
                        go_wp2_with (first | (go_at_call 13; refine (num_any _ _).mono ?_; rintro e w' ⟨rfl, rfl⟩) | (at_builtin; go_must (refine wpList_append_any _ rfl _ _ _ rfl w3.heap.size 41 i0 _ 4 56 Tryd.underlying32 hi0 hz0 hz1 hz2 rfl (by omega) (.slice A1 n1 c1) n1 _ rfl HRO.out w8.heap.size A8 l8.length c8 (packCells l8) rfl RT.out (packCells_one HP9.out) (by simp only [maxLen]; omega) (by omega) H8.out.two.bw ?_); intro V9 w9 hown9 hg9 hat9; have HAT9 := Lib.hid hat9; clear hat9; obtain ⟨A9, c9, rfl, hc9, -, -⟩ := own_shape hown9; have K9 := Lib.hid (H8.out.more1 hg9 (V1' := .slice A9 (n1 + l8.length) c9) ⟨lo ++ l8, rfl, HPO.out.joined HP9.out hb9 hg9 (by rw [HLON.out]; exact hown9)⟩ HAT9.out); have hfz := (blk_onto H8.out.wires HRO.out (by decide) hg9).frozen; have m9 : w9.cell? ⟨gw, 1, none⟩ = some (.slice A1 n1 c1) := (blk_onto H8.out.wires HRO.out (by decide) hg9).cell 1))
                        have hk9 := K9.out
                        rw [List.map_append, HLO.out, HL8.out] at hk9
                        have hlk : i < F.ax j := by have := HN0.out; omega
                        have hwm := wire_more (F.inY) (F.ay i) (F.ay (i + 1)) j hjy (HFL.out.monoY _) (HFL.out.lenY _)
                        have hmn := HFL.out.monoY i
                        have hmij := HMIJ.out
                        refine ⟨?_, by have h1 := HFL.out.lenX j; have h2 := HFL.out.lenY i; simp [intOf]; omega⟩
                        iterate 72 apply Exists.intro
                        refine And.intro ?_ rfl
                        exact ⟨m + 1, i + 1, j, _, _, _, _, by go_num, by omega, by omega, by omega, by rw [show F.wy (i + 1) j = _ from hwm.symm]; exact hk9⟩

                      · have hq : ((n1 : Int) == 0) = false := by simpa using hem
                        have hlk : j < F.ay i := by have := HN1.out; omega
                        have hil : j < F.inY.length := Nat.lt_of_lt_of_le hlk (HFL.out.lenY i)
                        have P := HW.out.p1
                        rw [show F.wy i j = (F.inY[j]'hil) :: F.wy i (j + 1) from wire_head F.inY (F.ay i) j hlk (HFL.out.lenY i)] at P
                        have TK := Lib.hid (HFL.out.takeY j hil)
                        have hfit := HFL.out.fitY _ (List.getElem_mem hil)
                        generalize F.inY[j]'hil = p at P TK hfit
                        have HP := Lib.hid P
                        obtain ⟨b0, q0, u, e, -, p0, p1, p2, p3, ho⟩ := packs_head P
                        injection e with e1 e2 e3
                        subst e1 e3
                        have E2 := Lib.hid e2
                        obtain ⟨Ap, cp, rfl, hcp, _, _⟩ := own_shape ho
                        have HO := Lib.hid ho
                        clear P e2 ho hlk hil
                        have s0 : wr.cell? ⟨gw, 1, none⟩ = some (.slice (some ⟨b0, 0, none⟩) n1 c1) := HW.out.wires.cell 1
                        have s1 : wr.cell? ⟨gw, 0, none⟩ = some (.slice A0 n0 c0) := HW.out.wires.cell 0
                        have s2 : wr.cell? ⟨gn, 1, none⟩ = some (.pointer (some ⟨gy, 0, none⟩)) := HW.out.ns.cell 1
                        have z0 : ((wr.alloc (.cells #[.int .i64 p.code, .int .i64 p.id, .slice Ap p.opts.length cp, .string p.data] 41)).alloc (.cells #[] 41)).cell? ⟨gw, 1, none⟩ = some (.slice (some ⟨b0, 0, none⟩) n1 c1) := by
                          rw [World.cell?_alloc_lt _ _ _ (by simp; exact Nat.lt_succ_of_lt HW.out.wires.lt), World.cell?_alloc_lt _ _ _ HW.out.wires.lt]; exact s0
                        have hn1k : 1 ≤ n1 := by have := E2.out; omega
                        have hn1i : (1 : Int) ≤ (n1 : Int) := by omega
                        have hn1c : (1 : Int) ≤ (c1 : Int) := by omega
                        have hnci : (n1 : Int) ≤ (c1 : Int) := by omega
                        obtain ⟨l, hl, hpl⟩ := HP.out
                        obtain ⟨x0, l', rfl⟩ : ∃ x0 l', l = x0 :: l' := by
                          cases l with
                          | nil => cases hl
                          | cons x0 l' => exact ⟨x0, l', rfl⟩
                        simp only [List.map_cons, List.cons.injEq] at hl
                        obtain ⟨hl0, hlt⟩ := hl
                        have HLT := Lib.hid hlt
                        have HPL := Lib.hid hpl
                        have hln : (x0 :: l').length = n1 := by have := E2.out; rw [← hlt, List.length_map] at this; simp only [List.length_cons]; omega
                        have HLN := Lib.hid hln
                        have hrow := hpl.row
                        rw [hln] at hrow
                        have HD := Lib.hid (show Reads ((wr.alloc (.cells #[.int .i64 p.code, .int .i64 p.id, .slice Ap p.opts.length cp, .string p.data] 41)).alloc (.cells #[] 41)) wr.heap.size 4 (if c1 = 1 then some ⟨b0, 0, none⟩ else (some ⟨b0, 0, none⟩ : Option Addr).map (·.add (1 * 4))) (n1 - 1) (packCells l') from
                          (((Reads.of_own hrow).cut (k := 1) hn1k (by omega)).alloc (Nat.le_refl _) _).alloc (by simp) _)
                        have HOE := Lib.hid (show ((wr.alloc (.cells #[.int .i64 p.code, .int .i64 p.id, .slice Ap p.opts.length cp, .string p.data] 41)).alloc (.cells #[] 41)).ownsRow (wr.heap.size + 1) 41 4 (.slice (some ⟨wr.heap.size + 1, 0, none⟩) 0 0) 0 [] from
                          ⟨by simp, .inr ⟨wr.heap.size + 1, 0, #[], rfl, Nat.le_refl _, by have := heap_alloc_new (wr.alloc (.cells #[.int .i64 p.code, .int .i64 p.id, .slice Ap p.opts.length cp, .string p.data] 41)) (.cells #[] 41); rwa [show (wr.alloc (.cells #[.int .i64 p.code, .int .i64 p.id, .slice Ap p.opts.length cp, .string p.data] 41)).heap.size = wr.heap.size + 1 by simp] at this, Nat.le_refl _, Nat.zero_le _, by simp, by simp⟩⟩)
                        clear hl0 hlt hpl hln hrow
                        have HWE := Lib.hid (HW.out.below (((Below.refl wr.heap.size wr).alloc (Nat.le_refl _) (.cells #[.int .i64 p.code, .int .i64 p.id, .slice Ap p.opts.length cp, .string p.data] 41)).alloc (by simp) (.cells #[] 41)))
                        obtain ⟨i0, hi0, hz0, hz1, hz2⟩ := info_parts Tryd.info41
                        go_wp2_with (at_builtin; go_must (refine wpList_append_any _ rfl _ _ _ rfl (wr.heap.size + 1) 41 i0 _ 4 56 Tryd.underlying32 hi0 hz0 hz1 hz2 rfl (by omega) (.slice (some ⟨wr.heap.size + 1, 0, none⟩) 0 0) 0 [] rfl HOE.out wr.heap.size _ _ _ (packCells l') rfl HD.out (packCells_tail HPL.out) (by simp only [maxLen]; omega) (by omega) (by simp) ?_); intro V5 w5' hown5 hg5 hat5; rw [Nat.zero_add] at hown5; have HAT := Lib.hid hat5; clear hat5; generalize (if c1 = 1 then (some ⟨b0, 0, none⟩ : Option Addr) else _) = Z5; obtain ⟨A5, c5, rfl, hc5, -, -⟩ := own_shape hown5; have hfz := (blk_onto HWE.out.wires HOE.out (by decide) hg5).frozen; have m9 : w5'.cell? ⟨gw, 1, none⟩ = some (.slice (some ⟨b0, 0, none⟩) n1 c1) := (blk_onto HWE.out.wires HOE.out (by decide) hg5).cell 1)
                        have HV := Lib.hid (HWE.out.onto HOE.out (Nat.le_succ_of_le HW.out.two.bw) hg5 (fresh_apart HW.out.p0 (fun g hg => by simp [Value.ownBlock] at hg; omega)) (fresh_apart HW.out.p1 (fun g hg => by simp [Value.ownBlock] at hg; omega)))
                        have P5 := Lib.hid (show Pk w5' w3.heap.size (.slice A5 (n1 - 1) c5) (F.wy i (j + 1)) from by
                          refine ⟨l', HLT.out, own_base (by have e : l'.length = n1 - 1 := (by have := HLN.out; simp only [List.length_cons] at this; omega); rw [e]; exact hown5) (Nat.le_succ_of_le HW.out.two.bw), fun x hx => ?_, fun x _ => nilS_apart _⟩
                          exact own_onto (own_below (HPL.out.rows x (List.mem_cons_of_mem _ hx)) (((Below.refl wr.heap.size wr).alloc (Nat.le_refl _) _).alloc (by simp) _)) HOE.out (by decide) hg5)
                        have AP5 := Lib.hid (show Apart (.slice A5 (n1 - 1) c5) (.slice A0 n0 c0) from fresh_apart HW.out.p0 (fun g hg => by
                          rcases HAT.out with h | h
                          · rw [h] at hg; simp [Value.ownBlock] at hg; omega
                          · rw [h] at hg; simp at hg; omega))
                        have HV2 := Lib.hid (HV.out.set1 P5.out AP5.out.symm)
                        have KP := Lib.hid (Blk.far (((Blk.new wr 41 #[.int .i64 p.code, .int .i64 p.id, .slice Ap p.opts.length cp, .string p.data]).alloc (.cells #[] 41)).grown hg5 (by simp [Value.ownBlock])) (p := ⟨gw, 1, none⟩) (by have := HW.out.wires.lt; simp; omega) (.slice A5 (n1 - 1) c5))
                        have HO5 := Lib.hid ((own_onto (own_below HO.out (((Below.refl wr.heap.size wr).alloc (Nat.le_refl _) _).alloc (by simp) _)) HOE.out (by decide) hg5).kept (only_setCell (World.grownBy.refl w5' _) (p := ⟨gw, 1, none⟩) (.inl rfl) (.slice A5 (n1 - 1) c5)) (.inr (own_blk_ne (own_onto (own_below HO.out (((Below.refl wr.heap.size wr).alloc (Nat.le_refl _) _).alloc (by simp) _)) HOE.out (by decide) hg5) HV.out.wires (by decide))))
                        have hzg : ¬ wr.heap.size = gy := by have := HW.out.two.ny.lt; omega
                        have hng : ¬ gn = gy := Blk.ne_ HW.out.ns HW.out.two.ny.blk (by decide)
                        clear s0 s1 s2 z0 p0 p1 p2 p3 hfz m9 hown5 hg5 HAT
                        generalize wr.heap.size = zp at *
                        generalize w5'.setCell ⟨gw, 1, none⟩ (.slice A5 (n1 - 1) c5) = WF at *
                        have qn := Turned.cell (g := gy) (show WF.cell? ⟨gn, 1, none⟩ = some (.pointer (some ⟨gy, 0, none⟩)) from HV2.out.ns.cell 1) hng
                        have qp0 := Turned.cell (g := gy) (show WF.cell? ⟨zp, 0, none⟩ = some (.int .i64 p.code) from KP.out.cell 0) hzg
                        have qp1 := Turned.cell (g := gy) (show WF.cell? ⟨zp, 1, none⟩ = some (.int .i64 p.id) from KP.out.cell 1) hzg
                        have qp2 := Turned.cell (g := gy) (show WF.cell? ⟨zp, 2, none⟩ = some (.slice Ap p.opts.length cp) from KP.out.cell 2) hzg
                        have qp3 := Turned.cell (g := gy) (show WF.cell? ⟨zp, 3, none⟩ = some (.string p.data) from KP.out.cell 3) hzg
                        refine wp_region_sched [(0, false), (1, false), (2, false), (3, false), (4, false), (5, true), (6, false), (7, false), (8, false), (9, false), (10, false)] (Turned.v (w := WF) (g := gy)) (nearC WF) (okay_turned (World.grownBy.refl _ _)) (by kernel_rfl) rfl (by kernel_rfl) (by kernel_rfl) ⟨⟨_, (Below.refl _ _).drew⟩, rfl⟩ ?_
                        iterate 5 (refine sched_quiet rfl (fun K hK => ?_); go_simp; first | (refine hK _ ?_; clear hK K) | (apply Exists.intro; refine ⟨fun _ => ?_, hK _ ?_⟩; (fail); clear hK K))
                        clear qn qp0 qp1 qp2 qp3
                        refine sched_eff rfl rfl (fun K hK w6 hw6 => ?_)
                        go_simp
                        obtain ⟨z, rfl⟩ := hw6
                        have H6 := Lib.hid (HV2.out.below z.below)
                        have HDO := Lib.hid (Take_took gy ty vy _ p Ap p.opts.length cp z.v H6.out.two.ny H6.out.two.max (Reads.of_own (own_below HO5.out z.below)) rfl (by have := hfit.len; omega) hfit.opts hfit.data)
                        rw [TK.out] at HDO
                        refine HDO.out.mono ?_
                        clear HDO
                        rintro e w7 ⟨⟨V7, v7, he, hn, hp⟩⟩
                        simp only at he hn hp
                        subst he
                        have H7 := Lib.hid (H6.out.onY hn)
                        have hW57 := grown_row (only_of_below z.below (some gy)) hn.grown
                        obtain ⟨l8, hl8, hp8⟩ := hp.pk
                        have HL8 := Lib.hid hl8
                        have HP8 := Lib.hid hp8
                        have hbz := H6.out.two.bw
                        obtain ⟨A8, c8, rfl, hc8, _, _⟩ := own_shape hp8.row
                        refine ⟨_, rfl, nearC w7, okay_turned hW57, nearC_self _, hK _ _ ?_⟩
                        clear hK K hn hp hW57 hl8 hp8 H6 HV2 HV HO5 KP
                        iterate 5 (refine sched_quiet rfl (fun K hK => ?_); go_simp; first | (refine hK _ ?_; clear hK K) | (apply Exists.intro; refine ⟨fun _ => ?_, hK _ ?_⟩; (fail); clear hK K))
                        refine sched_nil ?_
                        rintro w8 ⟨y8, rfl⟩
                        have H8 := Lib.hid (H7.out.below y8.below)
                        have HP9 := Lib.hid (HP8.out.below y8.below)
                        have hb9 : w3.heap.size ≤ z.v.heap.size := hbz
                        clear H7 HP8 hbz
                        generalize y8.v = w8 at *
                        have RT := Lib.hid (Reads.of_own HP9.out.row)
                        obtain ⟨lo, hlo, hpo⟩ := H8.out.p0
                        have HLO := Lib.hid hlo
                        have hlon : lo.length = n0 := by
                          obtain ⟨A', c', e', _, _, _⟩ := own_shape hpo.row
                          injection e' with e1 e2 e3
                          exact e2.symm
                        have HLON := Lib.hid hlon
                        have hrowo := hpo.row
                        rw [hlon] at hrowo
                        have HRO := Lib.hid hrowo
                        have HPO := Lib.hid hpo
                        clear hlo hpo hrowo hlon
                        have m0 : w8.cell? ⟨gw, 0, none⟩ = some (.slice A0 n0 c0) := H8.out.wires.cell 0
                        have hfz := H8.out.wires.frozen
                        have hl8n : l8.length ≤ 4 := by
                          have := congrArg List.length HL8.out
                          rw [List.length_map, wire_len _ _ _ (HFL.out.lenX _)] at this
                          have h1 := HFL.out.lenX (j + 1)
                          have h2 := HFL.out.manyX
                          omega
                        go_wp2_with (first | (go_at_call 13; refine (num_any _ _).mono ?_; rintro e w' ⟨rfl, rfl⟩) | (at_builtin; go_must (refine wpList_append_any _ rfl _ _ _ rfl w3.heap.size 41 i0 _ 4 56 Tryd.underlying32 hi0 hz0 hz1 hz2 rfl (by omega) (.slice A0 n0 c0) n0 _ rfl HRO.out w8.heap.size A8 l8.length c8 (packCells l8) rfl RT.out (packCells_one HP9.out) (by simp only [maxLen]; omega) (by omega) H8.out.two.bw ?_); intro V9 w9 hown9 hg9 hat9; have HAT9 := Lib.hid hat9; clear hat9; obtain ⟨A9, c9, rfl, hc9, -, -⟩ := own_shape hown9; have K9 := Lib.hid (H8.out.more0 hg9 (V0' := .slice A9 (n0 + l8.length) c9) ⟨lo ++ l8, rfl, HPO.out.joined HP9.out hb9 hg9 (by rw [HLON.out]; exact hown9)⟩ HAT9.out); have hfz := (blk_onto H8.out.wires HRO.out (by decide) hg9).frozen; have m9 : w9.cell? ⟨gw, 0, none⟩ = some (.slice A0 n0 c0) := (blk_onto H8.out.wires HRO.out (by decide) hg9).cell 0))
                        have hk9 := K9.out
                        rw [List.map_append, HLO.out, HL8.out] at hk9
                        have hlk : j < F.ay i := by have := HN1.out; omega
                        have hwm := wire_more (F.inX) (F.ax j) (F.ax (j + 1)) i hix (HFL.out.monoX _) (HFL.out.lenX _)
                        have hmn := HFL.out.monoX j
                        have hmij := HMIJ.out
                        refine ⟨?_, by have h1 := HFL.out.lenY i; have h2 := HFL.out.lenX j; simp [intOf]; omega⟩
                        iterate 72 apply Exists.intro
                        refine And.intro ?_ rfl
                        exact ⟨m + 1, i, j + 1, _, _, _, _, by go_num, by omega, by omega, by omega, by rw [show F.wx i (j + 1) = _ from hwm.symm]; exact hk9⟩

set_option maxRecDepth 100000 in
theorem negTwo_lifted (os : Os) (started : os.Started) (H : Type) (enc : TypeId × Value → H) :
    ReturnsInHanded {} Tryd.checked os 9 .any (fun w args => (Rows.negTwoSpec.pre enc Tryd.prog Tryd.f9 Rows.negTwoRow.domain false w args ∧ laidMetH Tryd.prog Rows.negTwoRow.laid w) ∧ sizedMet enc Tryd.prog Tryd.f9 (OpenSpec.ofChange Rows.negTwoSpec) false w args)
      (Rows.negTwoSpec.post enc Tryd.prog Tryd.f9 false true false false) := by
  refine returns_shaped_and (C := Tryd.checked) (X := fun w _ => laidMetH Tryd.prog Rows.negTwoRow.laid w) (fun _ _ _ hh h => h.of_heap hh) own_knob started (by kernel_rfl) Tryd.func9
    (ChangeSpec.witness_shaped (enc := enc) (C := Tryd.checked) (os := os) (X := fun w _ => laidMetH Tryd.prog Rows.negTwoRow.laid w) false (World.laidAll Tryd.prog os Rows.negTwoRow.laid) #[.agg #[.int .i64 0, .int .i64 0, .int .i64 0, .bool false, .string ⟨#[]⟩, .int .i64 0], .agg #[.int .i64 0, .int .i64 0, .int .i64 0, .bool false, .string ⟨#[]⟩, .int .i64 0], .slice none 0 0] 8 (World.laidAll_os _ _ _)
      (World.shaped_of_ZipB (by kernel_rfl) (by kernel_rfl)) (by kernel_rfl) (by kernel_rfl) (by kernel_rfl)
      (by rw [MakeChecks.laidMetH_plain _ _ _ (by kernel_rfl)]; exact laidMet_laidAll _ (by kernel_rfl) (by kernel_rfl))) ?_
  intro W base args ds gs before hval0 hW hcnd hsz0 hL hsh _
  have hval : ∀ (j : Nat) t v, Tryd.f9.params[j]? = some t → args[j]? = some v → Value.okWide Tryd.prog W .any base t v := hval0
  have hmx := has_max hsh
  have hW' := hW
  obtain ⟨p, q, hA0, hV, rfl, hfz, hnd⟩ := hW
  have hA : DataW.TrodAll enc Tryd.prog W 0 (fun _ => true) true Tryd.f9.params.toList args.toList ds p := hA0
  have hsz : (DataW.weightsEach Tryd.prog (Tryd.f9.params.toList ++ Rows.negTwoSpec.plain.varTypes Tryd.prog) (ds ++ gs)).all (· ≤ reachBytes) = true := hsz0
  rw [Tryd.params9] at hA hval hsz
  obtain ⟨v0, vs0, d0, ds0, p0, q0, hargs, rfl, rfl, h0, r0⟩ := trodAll_cons hA
  obtain ⟨v1, vs1, d1, ds1, p1, q1, rfl, rfl, rfl, h1, r1⟩ := trodAll_cons r0
  obtain ⟨v2, vs2, d2, ds2, p2, q2, rfl, rfl, rfl, h2, r2⟩ := trodAll_cons r1
  obtain ⟨rfl, rfl, rfl⟩ := trodAll_nil r2
  obtain rfl : args = #[v0, v1, v2] := by cases args; simp_all
  obtain ⟨rfl, rfl⟩ := trodVars_none hV
  have k0 := h0
  obtain ⟨a, rfl⟩ := open_link (hval 0 23 v0 rfl rfl) h0
  have k1 := h1
  obtain ⟨b, rfl⟩ := open_link (hval 1 23 v1 rfl rfl) h1
  have k2 := h2
  obtain ⟨A2, n2, c2, zs, rfl, hr2, hnc2⟩ := open_ints' (hval 2 47 v2 rfl rfl) h2
  clear hA0 hval0
  refine (walk_negTwo a b A2 n2 c2 zs W hmx hr2 hnc2).mono fun e W' ⟨he, bel⟩ => ?_
  subst he
  exact ⟨_, rfl, _, _, _, [], _, [], hW', trodAll_cons_mk (shut_bool Tryd.underlying4 _) trodAll_mk0, (trodAll_cons_mk (Below.trod laid_out (by kernel_rfl) (of_decide_eq_true (by kernel_rfl)) k0 bel (trod_below k0)) (trodAll_cons_mk (Below.trod laid_out (by kernel_rfl) (of_decide_eq_true (by kernel_rfl)) k1 bel (trod_below k1)) (trodAll_cons_mk (Below.trod laid_out (by kernel_rfl) (of_decide_eq_true (by kernel_rfl)) k2 bel (trod_below k2)) trodAll_mk0))), rfl, bel.frame _, fun h => by cases h⟩

theorem negTwo_holds : Rows.NegTwoSaid :=
  OpenClaim.holds_of_wide 9 Tryd.f9 rfl rfl rfl rfl rfl rfl rfl ⟨rfl, rfl, rfl, rfl, rfl⟩ rfl rfl rfl rfl rfl (by kernel_rfl) Tryd.func9 (by kernel_rfl)
    (of_decide_eq_true (by kernel_rfl)) (by unfold Func.isWrapper; first | (rw [if_pos (by decide +kernel)]; kernel_rfl) | (rw [if_neg (by decide +kernel)]; exact ⟨rfl, rfl⟩))
    (fun os started H enc _ => negTwo_lifted os started H enc)
theorem negTwo_card : Rows.NegTwoCardSaid :=
  Claim7.holds_tied_plain_at .later [] [.data, .pinned] true (true, "d4a511c915e6a17b6bf218a66d26c660ca8097baf3c083678f03dd7ace4f4ba1") false negTwo_holds (fun _ h => by cases h) (by kernel_rfl) (fun _ h => by cases h) negTwo_row_tie rfl ⟨rfl, rfl⟩ (by kernel_rfl) rfl
    (fun f fn hf hfn => by
      obtain rfl : f = 9 := Option.some.inj ((show Tryd.prog.funcNamed "withy/withylaw15.NegTwo" = some 9 by kernel_rfl).symm.trans hf) |>.symm
      obtain rfl : fn = Tryd.f9 := (Option.some.inj (Tryd.func9.symm.trans hfn)).symm
      exact ⟨by kernel_rfl, fun j t ht => by
        rw [Tryd.params9] at ht
        have hm : t ∈ [23, 23, 47] := by simpa using Array.mem_of_getElem? ht
        have hall : ([23, 23, 47].all fun u => !Tryd.prog.wantsStandIn u) = true := by kernel_rfl
        exact (show Tryd.prog.wantsStandIn t = false by simpa using List.all_eq_true.1 hall t hm)⟩)
    (by kernel_rfl)
#print axioms negTwo_card
end Go.Proofs.YthlfghheciamcaaDoor

