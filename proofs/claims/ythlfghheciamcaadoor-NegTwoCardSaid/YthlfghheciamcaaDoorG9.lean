/-
  The contract of do: an event, its actions, its packets.
  Conditions: the variable internal/bytealg.MaxLen holds an int; as each states.
-/
import Derived.Test.YthlfghheciamcaaDoorG8
namespace Go.Proofs.YthlfghheciamcaaDoor
open Go.RowKit
set_option linter.unusedVariables false

/-- the event has been noted -/
theorem RepAt.putEvent {w : World} {b : Nat} {pv ov : Value} {r : RepD} (h : RepAt w b pv ov r) (ev : Int) :
    RepAt (w.setCell ⟨b, 4, none⟩ (.int .i64 ev)) b pv ov { r with event := ev } ∧ w.grownBy (w.setCell ⟨b, 4, none⟩ (.int .i64 ev)) (some b) :=
  have hg : w.grownBy (w.setCell ⟨b, 4, none⟩ (.int .i64 ev)) (some b) := only_setCell (World.grownBy.refl w _) (.inl rfl) _
  ⟨⟨h.blk.set_ 4 _, h.prow.kept hg (.inr (own_blk_ne h.prow h.blk (by decide))), h.orow.kept hg (.inr (own_blk_ne h.orow h.blk (by decide))), ⟨h.fit.pl, h.fit.ol, h.fit.pd, h.fit.od, h.fit.dd⟩⟩, hg⟩

theorem own_own_ne {w : World} {b b' n n' : Nat} {e e' : TypeId} {s s' : Nat} {v v' : Value} {xs xs' : List Value} (h : w.ownsRow b e s v n xs) (h' : w.ownsRow b' e' s' v' n' xs') (hne : e ≠ e') (k : Nat) (hk : v'.ownBlock = some k) : v.ownBlock ≠ some k := by
  intro hv
  rcases h'.2 with ⟨rfl, _⟩ | ⟨g, cap, cur, rfl, _, hh, _⟩
  · simp [Value.ownBlock] at hk
  · have hg : g = k := by simpa [Value.ownBlock] using hk
    subst hg
    exact own_blk_ne h (g := g) (t := e') (cs := cur) hh hne hv
theorem own_onto {w w' : World} {b b' n n' : Nat} {e e' : TypeId} {s s' : Nat} {v v' : Value} {xs xs' : List Value} (h : w.ownsRow b e s v n xs) (h' : w.ownsRow b' e' s' v' n' xs') (hne : e ≠ e') (hg : w.grownBy w' v'.ownBlock) : w'.ownsRow b e s v n xs := by
  refine h.kept hg ?_
  cases hv : v.ownBlock with
  | none => exact .inl rfl
  | some k => exact .inr fun he => own_own_ne h h' hne k he.symm hv
theorem blk_onto {w w' : World} {b' n' g : Nat} {T e' : TypeId} {s' : Nat} {v' : Value} {cs : Array Value} {xs' : List Value} (h : Blk w g T cs) (h' : w.ownsRow b' e' s' v' n' xs') (hne : e' ≠ T) (hg : w.grownBy w' v'.ownBlock) : Blk w' g T cs :=
  h.grown hg (Ne.symm (own_blk_ne h' h hne))
theorem NegAt.onto {w w' : World} {g t b n' : Nat} {v V : Value} {n : NegD} {xs : List Value} (h : NegAt w g t v n) (hV : w.ownsRow b 41 4 V n' xs) (hg : w.grownBy w' V.ownBlock) : NegAt w' g t v n :=
  ⟨blk_onto h.blk hV (by decide) hg, blk_onto h.tab hV (by decide) hg, own_onto h.row hV (by decide) hg, h.fit⟩
theorem RepAt.onto {w w' : World} {rb b n' : Nat} {pv ov V : Value} {r : RepD} {xs : List Value} (h : RepAt w rb pv ov r) (hV : w.ownsRow b 41 4 V n' xs) (hg : w.grownBy w' V.ownBlock) : RepAt w' rb pv ov r :=
  ⟨blk_onto h.blk hV (by decide) hg, own_onto h.prow hV (by decide) hg, own_onto h.orow hV (by decide) hg, h.fit⟩
theorem only_row {a w1 w2 : World} {g : Nat} {row : Option Nat} (h : a.grownBy w1 (some g)) (k : w1.grownBy w2 row) (hr : ∀ j, row = some j → a.heap.size ≤ j) : a.grownBy w2 (some g) :=
  ⟨k.os.trans h.os, k.tape.trans h.tape, k.output.trans h.output, Nat.le_trans h.size k.size, fun i hi hne => (k.block i (Nat.lt_of_lt_of_le hi h.size) (fun e => by have := hr i e.symm; omega)).trans (h.block i hi hne)⟩
theorem actAll_step (n : NegD) (r : RepD) (ac : List Int) (k : Nat) (h : k < ac.length) : actAll n r (ac.take (k + 1)) = ((actOne (actAll n r (ac.take k)).1 r (ac[k]'h)).1, (actAll n r (ac.take k)).2 ++ (actOne (actAll n r (ac.take k)).1 r (ac[k]'h)).2) := by
  rw [show ac.take (k + 1) = ac.take k ++ [ac[k]'h] by rw [List.take_add_one, List.getElem?_eq_getElem h]; rfl, actAll_snoc]

theorem PacksIn.sent {w ws : World} {base g t : Nat} {V v v' u : Value} {n n' : NegD} {p : PackD} {l : List (PackD × Value)} (h : PacksIn w base V v l) (hn : NegAt w g t v n) (hs : Sent w ws g t v v' n' p u) : PacksIn ws base V v' l := by
  have hb := h.beside hs.neg.grown hn.blk (by decide) (by decide)
  refine ⟨hb.row, hb.rows, fun x hx => ?_⟩
  rcases hs.os with he | hnew
  · rw [he]; exact h.apart x hx
  · intro k hk hvk
    have h1 := (h.rows x hx).lt k hk
    have h2 := hnew k hvk
    omega
theorem PacksIn.push {w1 w' : World} {base : Nat} {V V' nv u : Value} {pk : PackD} {l : List (PackD × Value)} (h : PacksIn w1 base V nv l) (hg : w1.grownBy w' V.ownBlock)
    (hrow : w'.ownsRow base 41 4 V' (l.length + 1) (packCells l ++ [.int .i64 pk.code, .int .i64 pk.id, u, .string pk.data]))
    (hu : w1.ownsRow base 79 2 u pk.opts.length (optCells pk.opts)) (hap : Apart u nv) : PacksIn w' base V' nv (l ++ [(pk, u)]) := by
  refine ⟨?_, ?_, ?_⟩
  · rw [packCells_append, List.length_append]; exact hrow
  · intro x hx
    rcases List.mem_append.1 hx with hx | hx
    · exact own_onto (h.rows x hx) h.row (by decide) hg
    · simp only [List.mem_singleton] at hx
      subst hx
      exact own_onto hu h.row (by decide) hg
  · intro x hx
    rcases List.mem_append.1 hx with hx | hx
    · exact h.apart x hx
    · simp only [List.mem_singleton] at hx
      subst hx
      exact hap
theorem PacksIn.alloc {w : World} {base : Nat} {V nv : Value} {l : List (PackD × Value)} (h : PacksIn w base V nv l) (o : Obj) : PacksIn (w.alloc o) base V nv l := ⟨h.row.alloc o, fun x hx => (h.rows x hx).alloc o, h.apart⟩

theorem actStart_fit {n : NegD} (h : NegFit n) (a : Int) : NegFit (actStart n a) := by
  unfold actStart
  split
  · exact { h with l0 := by have := h.t0; show 0 ≤ n.tries; omega, l1 := h.t1 }
  · split
    · exact { h with l0 := by show (0 : Int) ≤ 0; omega, l1 := by show (0 : Int) ≤ 10; omega }
    · exact h

set_option maxRecDepth 100000 in
set_option maxHeartbeats 4000000 in
theorem do_no (wc w : World) (g t rb : Nat) (v : Value) (n : NegD) (ev : Int) (h : NegTo wc w g t v n) (hm : HasMax w) (h2 : 0 ≤ ev) (h3 : ev < 16) (hS : (stepD n.state ev).2.2 ≠ 0) :
    Calls Tryd.prog 26 #[.pointer (some ⟨g, 0, none⟩), .int .i64 ev, .pointer (some ⟨rb, 0, none⟩)] w fun e w' =>
      e = .returned (.tuple #[.slice none 0 0, .int .i64 1501]) ∧ NegTo wc w' g t v n := by
  have H := Lib.hid h
  clear h
  obtain ⟨nx, acts, er, hq⟩ : ∃ nx acts er, stepD n.state ev = (nx, acts, er) := ⟨_, _, _, rfl⟩
  rw [hq] at hS
  have hz : (er != 0) = true := by simpa using hS
  have HS := Lib.hid (astep_no g t v n ev nx er acts w H.out.at_ hm h2 h3 hq hz)
  clear hq hS hz hm
  go_enter Tryd.func26, Tryd.ntmps26
  go_wp2_with (go_at_call 33; refine HS.out.mono ?_; rintro e w1 ⟨rfl, hn1⟩)
  go_ret2
  exact ⟨rfl, H.out.trans hn1⟩

set_option maxRecDepth 100000 in
set_option maxHeartbeats 4000000 in
theorem do_yes (wc w : World) (g t rb : Nat) (v pv ov : Value) (n : NegD) (r : RepD) (ev nx : Int) (acts : List Int) (h : NegTo wc w g t v n) (hr : RepAt w rb pv ov r) (hrb : wc.heap.size ≤ rb) (hgc : g < wc.heap.size) (hm : HasMax w) (h2 : 0 ≤ ev) (h3 : ev < 16)
    (hS : stepD n.state ev = (nx, acts, 0)) :
    Calls Tryd.prog 26 #[.pointer (some ⟨g, 0, none⟩), .int .i64 ev, .pointer (some ⟨rb, 0, none⟩)] w fun e w' =>
      ∃ V v', e = .returned (.tuple #[V, .int .i64 0]) ∧ NegTo wc w' g t v' (actAll { n with state := nx } { r with event := ev } acts).1 ∧ PacksAt w' wc.heap.size V v' (actAll { n with state := nx } { r with event := ev } acts).2 := by
  have HS := Lib.hid (astep_ok g t v n ev nx 0 acts w h.at_ hm h2 h3 hS rfl)
  have HA := step_acts n.state ev h.at_.fit.s0 h.at_.fit.s1 h2 h3
  rw [hS] at HA
  obtain ⟨hal, ha13⟩ := HA
  simp only at hal ha13
  have HA13 := Lib.hid ha13
  have H := Lib.hid h
  have R := Lib.hid hr
  have hgr : g ≠ rb := by omega
  clear hS h hr ha13 hm
  go_enter Tryd.func26, Tryd.ntmps26
  go_wp2_with (go_at_call 33; refine HS.out.mono ?_; rintro e w1 ⟨ua, rfl, hn1, ha1⟩; obtain ⟨Aa, ca, rfl, hca, hcm, _⟩ := own_shape ha1; have H1 := Lib.hid (H.out.trans hn1); have R1 := Lib.hid (R.out.neg H.out.at_ hn1); have A1 := Lib.hid ha1; have r4 : w1.cell? ⟨rb, 4, none⟩ = some (.int .i64 r.event) := R1.out.blk.cell 4; have rf := R1.out.blk.frozen 4; clear hn1 ha1)
  have hp := R1.out.putEvent ev
  have H2 := Lib.hid (show NegTo wc (w1.setCell ⟨rb, 4, none⟩ (.int .i64 ev)) g t v { n with state := nx } from ⟨H1.out.at_.beside hp.2 R1.out.blk (Ne.symm hgr) (by decide) (by decide), only_new H1.out.grown hp.2 hrb⟩)
  have A2 := Lib.hid (own_base (own_grown' A1.out hp.2 (own_blk_ne A1.out R1.out.blk (by decide))) (Nat.zero_le _))
  have R2 := Lib.hid hp.1
  clear hp r4 rf
  generalize hn1 : ({ n with state := nx } : NegD) = n1 at *
  generalize hr1 : ({ r with event := ev } : RepD) = r1 at *
  have HN1 := Lib.hid hn1
  have HR1 := Lib.hid hr1
  clear hn1 hr1
  go_loopw [10, 12, 13, 14, 32] (fun out _ _ _ i wr => ∃ (k : Nat) (vN : Value) (l : List (PackD × Value)), k ≤ acts.length ∧ i = .int .i64 k ∧ l.length ≤ k ∧ NegTo wc wr g t vN (actAll n1 r1 (acts.take k)).1 ∧ l.map Prod.fst = (actAll n1 r1 (acts.take k)).2 ∧ PacksIn wr wc.heap.size out vN l ∧ RepAt wr rb pv ov r1 ∧ wr.ownsRow 0 3 1 (.slice Aa acts.length ca) acts.length (intCells acts))
    (fun _ _ _ _ i _ => acts.length - (intOf i).toNat)
  case atStart => exact ⟨0, v, [], Nat.zero_le _, rfl, Nat.le_refl _, H2.out, rfl, ⟨World.ownsRow_nil _ _ _ _, (fun _ h => by simp at h), (fun _ h => by simp at h)⟩, R2.out, A2.out⟩
  case round =>
    obtain ⟨k, vN, l, hk, rfl, hlk, hn, hl, hp, hr, ha⟩ := hrel
    clear H H1 H2 R R1 R2 A1 A2 HS
    have HN := Lib.hid hn
    have HL := Lib.hid hl
    have HP := Lib.hid hp
    have HR := Lib.hid hr
    have HAc := Lib.hid ha
    clear hn hl hp hr ha
    by_cases hlt : k < acts.length
    · have HST := Lib.hid (actAll_step n1 r1 acts k hlt)
      have ha13 := HA13.out (acts[k]'hlt) (List.getElem_mem _)
      obtain ⟨ad, hAd, hbd, hcell⟩ := (Reads.of_own HAc.out).2 (by omega)
      subst hAd
      have hc0 : wr.cell? (ad.add k) = some (.int .i64 (acts[k]'hlt)) := hcell k _ (by simp [intCells, hlt])
      have hgw : g < wr.heap.size := HN.out.at_.lt
      clear hcell
      generalize acts[k]'hlt = a at *
      generalize (actAll n1 r1 (acts.take k)) = S at HN HL HST
      obtain ⟨n0, ps⟩ := S
      simp only at HN HL HST
      obtain ⟨Ao, co, rfl, hco, _, _⟩ := own_shape HP.out.row
      have hact : a = 5 ∨ a = 6 ∨ (¬ a = 5 ∧ ¬ a = 6) := by omega
      rcases hact with rfl | rfl | ⟨h5, h6⟩
      · have c2 : wr.cell? ⟨g, 2, none⟩ = some (.int .i64 n0.left) := HN.out.at_.blk.cell 2
        have c3 : wr.cell? ⟨g, 3, none⟩ = some (.int .i64 n0.tries) := HN.out.at_.blk.cell 3
        have f2 := HN.out.at_.blk.frozen 2
        go_wp2_with fail
        clear c2 c3 f2 hc0
        have hto := HN.out.at_.put 2 (.int .i64 n0.tries) (n' := { n0 with left := n0.tries }) rfl rfl (actStart_fit HN.out.at_.fit 5)
        have HX := Lib.hid (show NegTo wc _ g t vN (actStart n0 5) from HN.out.trans hto)
        have PX := Lib.hid (HP.out.beside hto.grown HN.out.at_.blk (by decide) (by decide))
        have RX := Lib.hid (HR.out.neg HN.out.at_ hto)
        have AX := Lib.hid (own_grown' HAc.out hto.grown (own_blk_ne HAc.out HN.out.at_.blk (by decide)))
        clear hto HN HP HR HAc
        refine (send_any g t rb vN pv ov _ 5 r1 _ HX.out.at_ RX.out (by omega)).mono ?_
        rintro e ws ⟨u, vs, rfl, hs⟩
        unfold actOne at HST
        generalize sendD (actStart n0 5) 5 r1 = q at *
        obtain ⟨n2, pk, b⟩ := q
        simp only at hs HST ⊢
        have HX2 := Lib.hid (HX.out.trans hs.neg)
        have RX2 := Lib.hid (RX.out.neg HX.out.at_ hs.neg)
        have AX2 := Lib.hid (own_grown' AX.out hs.neg.grown (own_blk_ne AX.out HX.out.at_.blk (by decide)))
        have PX2 := Lib.hid (PX.out.sent HX.out.at_ hs)
        have HAP := Lib.hid hs.apart
        have HRU := Lib.hid (own_base hs.row HX.out.grown.size)
        obtain ⟨Au, cu, rfl, hcu, _, _⟩ := own_shape hs.row
        have hz2 := HX2.out.grown.size
        clear hs HX RX AX PX
        simp only [packV]
        cases b with
        | false =>
          go_wp2_with fail
          simp only [if_neg (show ¬ (false : Bool) = true by decide), List.append_nil] at HST
          exact ⟨⟨k + 1, vs, l, by omega, by go_num, by omega, by rw [HST.out]; exact HX2.out.alloc _, by rw [HST.out]; simpa using HL.out, PX2.out.alloc _, RX2.out.alloc _, AX2.out.alloc _⟩, by simp [intOf]; omega⟩
        | true =>
          have PX3 := Lib.hid (PX2.out.row.alloc (.cells #[.int .i64 pk.code, .int .i64 pk.id, .slice Au pk.opts.length cu, .string pk.data] 41))
          go_wp2_with (at_builtin; go_must (refine wpList_push rfl rfl Tryd.underlying32 Tryd.info41 rfl (by decide) PX3.out rfl rfl (by simp) rfl (by intro u hu; simp at hu; rcases hu with rfl | rfl | rfl | rfl <;> rfl) (by omega) (by omega) (by simp; omega) ?_); intro V' w' hown' hg _)
          have HST2 := Lib.hid (show actAll n1 r1 (acts.take (k + 1)) = (n2, ps ++ [pk]) from HST.out)
          exact ⟨⟨k + 1, vs, l ++ [(pk, .slice Au pk.opts.length cu)], by omega, by go_num, by simp; omega, by rw [HST2.out]; exact ⟨(HX2.out.at_.alloc _).onto PX3.out hg, only_row (only_alloc HX2.out.grown _) hg (fun j hj => (PX3.out.lt j hj).1)⟩,
            by rw [HST2.out]; simp [HL.out], (PX2.out.alloc _).push hg hown' (HRU.out.alloc _) HAP.out, (RX2.out.alloc _).onto PX3.out hg, own_onto (AX2.out.alloc _) PX3.out (by decide) hg⟩, by simp [intOf]; omega⟩
      · have c2 : wr.cell? ⟨g, 2, none⟩ = some (.int .i64 n0.left) := HN.out.at_.blk.cell 2
        have f2 := HN.out.at_.blk.frozen 2
        go_wp2_with fail
        clear c2 f2 hc0
        have hto := HN.out.at_.put 2 (.int .i64 0) (n' := { n0 with left := 0 }) rfl rfl (actStart_fit HN.out.at_.fit 6)
        have HX := Lib.hid (show NegTo wc _ g t vN (actStart n0 6) from HN.out.trans hto)
        have PX := Lib.hid (HP.out.beside hto.grown HN.out.at_.blk (by decide) (by decide))
        have RX := Lib.hid (HR.out.neg HN.out.at_ hto)
        have AX := Lib.hid (own_grown' HAc.out hto.grown (own_blk_ne HAc.out HN.out.at_.blk (by decide)))
        clear hto HN HP HR HAc
        refine (send_any g t rb vN pv ov _ 6 r1 _ HX.out.at_ RX.out (by omega)).mono ?_
        rintro e ws ⟨u, vs, rfl, hs⟩
        unfold actOne at HST
        generalize sendD (actStart n0 6) 6 r1 = q at *
        obtain ⟨n2, pk, b⟩ := q
        simp only at hs HST ⊢
        have HX2 := Lib.hid (HX.out.trans hs.neg)
        have RX2 := Lib.hid (RX.out.neg HX.out.at_ hs.neg)
        have AX2 := Lib.hid (own_grown' AX.out hs.neg.grown (own_blk_ne AX.out HX.out.at_.blk (by decide)))
        have PX2 := Lib.hid (PX.out.sent HX.out.at_ hs)
        have HAP := Lib.hid hs.apart
        have HRU := Lib.hid (own_base hs.row HX.out.grown.size)
        obtain ⟨Au, cu, rfl, hcu, _, _⟩ := own_shape hs.row
        have hz2 := HX2.out.grown.size
        clear hs HX RX AX PX
        simp only [packV]
        cases b with
        | false =>
          go_wp2_with fail
          simp only [if_neg (show ¬ (false : Bool) = true by decide), List.append_nil] at HST
          exact ⟨⟨k + 1, vs, l, by omega, by go_num, by omega, by rw [HST.out]; exact HX2.out.alloc _, by rw [HST.out]; simpa using HL.out, PX2.out.alloc _, RX2.out.alloc _, AX2.out.alloc _⟩, by simp [intOf]; omega⟩
        | true =>
          have PX3 := Lib.hid (PX2.out.row.alloc (.cells #[.int .i64 pk.code, .int .i64 pk.id, .slice Au pk.opts.length cu, .string pk.data] 41))
          go_wp2_with (at_builtin; go_must (refine wpList_push rfl rfl Tryd.underlying32 Tryd.info41 rfl (by decide) PX3.out rfl rfl (by simp) rfl (by intro u hu; simp at hu; rcases hu with rfl | rfl | rfl | rfl <;> rfl) (by omega) (by omega) (by simp; omega) ?_); intro V' w' hown' hg _)
          have HST2 := Lib.hid (show actAll n1 r1 (acts.take (k + 1)) = (n2, ps ++ [pk]) from HST.out)
          exact ⟨⟨k + 1, vs, l ++ [(pk, .slice Au pk.opts.length cu)], by omega, by go_num, by simp; omega, by rw [HST2.out]; exact ⟨(HX2.out.at_.alloc _).onto PX3.out hg, only_row (only_alloc HX2.out.grown _) hg (fun j hj => (PX3.out.lt j hj).1)⟩,
            by rw [HST2.out]; simp [HL.out], (PX2.out.alloc _).push hg hown' (HRU.out.alloc _) HAP.out, (RX2.out.alloc _).onto PX3.out hg, own_onto (AX2.out.alloc _) PX3.out (by decide) hg⟩, by simp [intOf]; omega⟩
      · have e5 : (a == 5) = false := beq_eq_false_iff_ne.2 h5
        have e6 : (a == 6) = false := beq_eq_false_iff_ne.2 h6
        go_wp2_with fail
        clear hc0 e5 e6
        have HX := Lib.hid (show NegTo wc wr g t vN (actStart n0 a) by unfold actStart; rw [if_neg h5, if_neg h6]; exact HN.out)
        clear h5 h6
        have PX := HP
        have RX := HR
        have AX := HAc
        refine (send_any g t rb vN pv ov _ a r1 _ HX.out.at_ RX.out (by omega)).mono ?_
        rintro e ws ⟨u, vs, rfl, hs⟩
        unfold actOne at HST
        generalize sendD (actStart n0 a) a r1 = q at *
        obtain ⟨n2, pk, b⟩ := q
        simp only at hs HST ⊢
        have HX2 := Lib.hid (HX.out.trans hs.neg)
        have RX2 := Lib.hid (RX.out.neg HX.out.at_ hs.neg)
        have AX2 := Lib.hid (own_grown' AX.out hs.neg.grown (own_blk_ne AX.out HX.out.at_.blk (by decide)))
        have PX2 := Lib.hid (PX.out.sent HX.out.at_ hs)
        have HAP := Lib.hid hs.apart
        have HRU := Lib.hid (own_base hs.row HX.out.grown.size)
        obtain ⟨Au, cu, rfl, hcu, _, _⟩ := own_shape hs.row
        have hz2 := HX2.out.grown.size
        clear hs HX RX AX PX
        simp only [packV]
        cases b with
        | false =>
          go_wp2_with fail
          simp only [if_neg (show ¬ (false : Bool) = true by decide), List.append_nil] at HST
          exact ⟨⟨k + 1, vs, l, by omega, by go_num, by omega, by rw [HST.out]; exact HX2.out.alloc _, by rw [HST.out]; simpa using HL.out, PX2.out.alloc _, RX2.out.alloc _, AX2.out.alloc _⟩, by simp [intOf]; omega⟩
        | true =>
          have PX3 := Lib.hid (PX2.out.row.alloc (.cells #[.int .i64 pk.code, .int .i64 pk.id, .slice Au pk.opts.length cu, .string pk.data] 41))
          go_wp2_with (at_builtin; go_must (refine wpList_push rfl rfl Tryd.underlying32 Tryd.info41 rfl (by decide) PX3.out rfl rfl (by simp) rfl (by intro u hu; simp at hu; rcases hu with rfl | rfl | rfl | rfl <;> rfl) (by omega) (by omega) (by simp; omega) ?_); intro V' w' hown' hg _)
          have HST2 := Lib.hid (show actAll n1 r1 (acts.take (k + 1)) = (n2, ps ++ [pk]) from HST.out)
          exact ⟨⟨k + 1, vs, l ++ [(pk, .slice Au pk.opts.length cu)], by omega, by go_num, by simp; omega, by rw [HST2.out]; exact ⟨(HX2.out.at_.alloc _).onto PX3.out hg, only_row (only_alloc HX2.out.grown _) hg (fun j hj => (PX3.out.lt j hj).1)⟩,
            by rw [HST2.out]; simp [HL.out], (PX2.out.alloc _).push hg hown' (HRU.out.alloc _) HAP.out, (RX2.out.alloc _).onto PX3.out hg, own_onto (AX2.out.alloc _) PX3.out (by decide) hg⟩, by simp [intOf]; omega⟩
    · obtain rfl : k = acts.length := by omega
      go_wp2_with fail
      go_ret2
      have HT := Lib.hid (show acts.take acts.length = acts from List.take_of_length_le (Nat.le_refl _))
      rw [HT.out, ← HN1.out, ← HR1.out] at HN HL
      exact ⟨_, vN, rfl, HN.out, l, HL.out, HP.out⟩

theorem do_any (wc w : World) (g t rb : Nat) (v pv ov : Value) (n : NegD) (r : RepD) (ev : Int) (h : NegTo wc w g t v n) (hr : RepAt w rb pv ov r) (hrb : wc.heap.size ≤ rb) (hgc : g < wc.heap.size) (hm : HasMax w) (h2 : 0 ≤ ev) (h3 : ev < 16) :
    Calls Tryd.prog 26 #[.pointer (some ⟨g, 0, none⟩), .int .i64 ev, .pointer (some ⟨rb, 0, none⟩)] w fun e w' =>
      ∃ V v', e = .returned (.tuple #[V, .int .i64 (doD n ev r).2.2]) ∧ NegTo wc w' g t v' (doD n ev r).1 ∧ PacksAt w' wc.heap.size V v' (doD n ev r).2.1 := by
  obtain ⟨nx, acts, er, hq⟩ : ∃ nx acts er, stepD n.state ev = (nx, acts, er) := ⟨_, _, _, rfl⟩
  by_cases hz : er = 0
  · subst hz
    have hd : doD n ev r = ((actAll { n with state := nx } { r with event := ev } acts).1, (actAll { n with state := nx } { r with event := ev } acts).2, 0) := by unfold doD; rw [hq]; rfl
    rw [hd]
    exact do_yes wc w g t rb v pv ov n r ev nx acts h hr hrb hgc hm h2 h3 hq
  · have hd : doD n ev r = (n, [], 1501) := by unfold doD; rw [hq]; simp [hz]
    rw [hd]
    refine (do_no wc w g t rb v n ev h hm h2 h3 (by rw [hq]; exact hz)).mono ?_
    rintro e w' ⟨rfl, hn⟩
    exact ⟨.slice none 0 0, v, rfl, hn, [], rfl, ⟨World.ownsRow_nil _ _ _ _, (fun _ h => by simp at h), (fun _ h => by simp at h)⟩⟩
end Go.Proofs.YthlfghheciamcaaDoor
