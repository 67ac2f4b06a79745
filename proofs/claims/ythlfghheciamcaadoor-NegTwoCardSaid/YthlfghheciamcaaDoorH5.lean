/-
  The contract of Take.
  Conditions: the variable internal/bytealg.MaxLen holds an int; as each states.
-/
import Derived.Test.YthlfghheciamcaaDoorH4
namespace Go.Proofs.YthlfghheciamcaaDoor
open Go.RowKit
set_option linter.unusedVariables false

def repOf (p : PackD) : RepD := ⟨p, 0, 0, []⟩
def takeD (n : NegD) (p : PackD) : NegD × List PackD × Int :=
  if (controlPut p).2 ≠ 0 then (n, [], 1500)
  else if n.state = 0 ∨ n.state = 1 then (n, [], 1501)
  else if (eventD n (repOf p)).2.2.2 then doD (eventD n (repOf p)).1 (eventD n (repOf p)).2.2.1 (eventD n (repOf p)).2.1
  else ((eventD n (repOf p)).1, [], 0)

theorem putGo_fit : ∀ (os : List OptD) (acc l : List UInt8), putGo acc os = some l → acc.length + 2 * os.length ≤ l.length ∧ ∀ o ∈ os, o.data.size ≤ 253
  | [], acc, l, h => by simp only [putGo] at h; injection h with h; subst h; exact ⟨by simp, by simp⟩
  | o :: os, acc, l, h => by
    simp only [putGo] at h
    split at h
    · rename_i hf
      simp only [putFits, Bool.and_eq_true, decide_eq_true_eq] at hf
      have := putGo_fit os _ _ h
      rw [List.length_append, optBytes_length] at this
      refine ⟨by simp only [List.length_cons]; omega, fun x hx => ?_⟩
      rcases List.mem_cons.1 hx with hx | hx
      · rw [hx]; exact hf.1
      · exact this.2 x hx
    · cases h
theorem put_fit {p : PackD} (h : (controlPut p).2 = 0) : p.opts.length ≤ 1024 ∧ (∀ o ∈ p.opts, o.data.size ≤ 253) ∧ p.data.size ≤ 2044 := by
  have ho : (optsPut p.opts).2 = 0 ∧ 4 + ((optsPut p.opts).1.length + p.data.size) ≤ 2048 := by
    unfold controlPut at h
    split at h
    · simp at h
    · split at h
      · simp at h
      · rename_i h2
        split at h
        · simp at h
        · rename_i h3
          refine ⟨?_, by omega⟩
          simp only [Bool.or_eq_true, not_or] at h2
          have := h2.1.1
          simpa using this
  have hlen := optsPut_len p.opts
  obtain ⟨h1, h2⟩ := ho
  by_cases hk : p.opts.any kindBad = true
  · unfold optsPut at h1; rw [if_pos hk] at h1; simp at h1
  · cases hl : putGo [] p.opts with
    | none => unfold optsPut at h1; rw [if_neg hk, hl] at h1; simp at h1
    | some l =>
      have := putGo_fit p.opts [] l hl
      unfold optsPut at hlen h2
      rw [if_neg hk, hl] at hlen h2
      simp only [List.length_nil] at this hlen h2
      exact ⟨by omega, this.2, by omega⟩

/-- what a call comes to: the packets, the errno, the side -/
structure Took (w : World) (g t : Nat) (R : NegD × List PackD × Int) (e : Ending) (w' : World) : Prop where
  out : ∃ V v', e = .returned (.tuple #[V, .int .i64 R.2.2]) ∧ NegTo w w' g t v' R.1 ∧ PacksAt w' w.heap.size V v' R.2.1

set_option maxRecDepth 100000 in
set_option maxHeartbeats 4000000 in
theorem Take_took (g t : Nat) (v : Value) (n : NegD) (p : PackD) (A : Option Addr) (m c : Nat) (w : World) (h : NegAt w g t v n) (hm : HasMax w) (hr : Reads w w.heap.size 2 A m (optCells p.opts)) (hn : p.opts.length = m) (hn2 : m ≤ 9223372036854775806)
    (hd : ∀ o ∈ p.opts, o.data.size ≤ 140737488351232) (hpd : p.data.size ≤ 140737488351232) :
    Calls Tryd.prog 18 #[.pointer (some ⟨g, 0, none⟩), .agg #[.int .i64 p.code, .int .i64 p.id, .slice A m c, .string p.data]] w fun e w' =>
      Took w g t (takeD n p) e w' := by
  subst hn
  have H := Lib.hid h
  have HM := Lib.hid hm
  have hgl := h.lt
  have HPUT := Lib.hid (controlPut_any p A p.opts.length c (w.alloc (.cells #[.int .i64 p.code, .int .i64 p.id, .slice A p.opts.length c, .string p.data] 41)) ((hr.alloc (Nat.le_refl _) _).more (by simp)) rfl hn2 hd hpd)
  have HR := Lib.hid hr
  clear h hm hr hd
  by_cases he : (controlPut p).2 = 0
  · obtain ⟨hl, hsz, hds⟩ := put_fit he
    by_cases hst : n.state = 0 ∨ n.state = 1
    · have HD := Lib.hid (show takeD n p = (n, [], 1501) by unfold takeD; rw [if_neg (by rw [he]; simp), if_pos hst])
      have hz : ((controlPut p).2 != 0) = false := by simpa using he
      rcases hst with hs | hs
      · have HN := Lib.hid ((H.out.alloc (.cells #[.int .i64 p.code, .int .i64 p.id, .slice A p.opts.length c, .string p.data] 41)))
        go_enter Tryd.func18, Tryd.ntmps18
        go_wp2_with (go_at_call 27; refine HPUT.out.mono ?_; rintro e w1 ⟨rfl, hb1⟩; have hn1 := HN.out.below hb1; have s1 : w1.cell? ⟨g, 1, none⟩ = some (.int .i64 0) := by { have : w1.cell? ⟨g, 1, none⟩ = some (.int .i64 n.state) := hn1.blk.cell 1; rw [hs] at this; exact this })
        go_ret2
        refine ⟨?_⟩
        rw [HD.out]
        exact ⟨.slice none 0 0, v, rfl, ⟨hn1, only_below (only_alloc (World.grownBy.refl _ _) _) hb1⟩, [], rfl, ⟨World.ownsRow_nil _ _ _ _, (fun _ h => by simp at h), (fun _ h => by simp at h)⟩⟩
      · have HN := Lib.hid ((H.out.alloc (.cells #[.int .i64 p.code, .int .i64 p.id, .slice A p.opts.length c, .string p.data] 41)))
        go_enter Tryd.func18, Tryd.ntmps18
        go_wp2_with (go_at_call 27; refine HPUT.out.mono ?_; rintro e w1 ⟨rfl, hb1⟩; have hn1 := HN.out.below hb1; have s1 : w1.cell? ⟨g, 1, none⟩ = some (.int .i64 1) := by { have : w1.cell? ⟨g, 1, none⟩ = some (.int .i64 n.state) := hn1.blk.cell 1; rw [hs] at this; exact this })
        go_ret2
        refine ⟨?_⟩
        rw [HD.out]
        exact ⟨.slice none 0 0, v, rfl, ⟨hn1, only_below (only_alloc (World.grownBy.refl _ _) _) hb1⟩, [], rfl, ⟨World.ownsRow_nil _ _ _ _, (fun _ h => by simp at h), (fun _ h => by simp at h)⟩⟩
    · have hz : ((controlPut p).2 != 0) = false := by simpa using he
      have HN := Lib.hid ((H.out.alloc (.cells #[.int .i64 p.code, .int .i64 p.id, .slice A p.opts.length c, .string p.data] 41)))
      have e0 : (n.state == 0) = false := beq_eq_false_iff_ne.2 (fun e => hst (.inl e))
      have e1 : (n.state == 1) = false := beq_eq_false_iff_ne.2 (fun e => hst (.inr e))
      have HD := Lib.hid (show takeD n p = if (eventD n (repOf p)).2.2.2 then doD (eventD n (repOf p)).1 (eventD n (repOf p)).2.2.1 (eventD n (repOf p)).2.1 else ((eventD n (repOf p)).1, [], 0) by
        unfold takeD; rw [if_neg (by rw [he]; simp), if_neg hst])
      have HRG := Lib.hid (eventD_range n (repOf p))
      clear hst
      go_enter Tryd.func18, Tryd.ntmps18
      go_wp2_with (first | (go_at_call 27; refine HPUT.out.mono ?_; rintro e w1 ⟨rfl, hb1⟩; have hn1 := HN.out.below hb1; have s1 : w1.cell? ⟨g, 1, none⟩ = some (.int .i64 n.state) := hn1.blk.cell 1; have hk1 := Blk.below (Blk.new w 41 #[.int .i64 p.code, .int .i64 p.id, .slice A p.opts.length c, .string p.data]) hb1 (by simp); have p2 : w1.cell? ⟨w.heap.size, 2, none⟩ = some (.slice A p.opts.length c) := hk1.cell 2; have HB1 := Lib.hid (below_trans' ((Below.refl w.heap.size w).alloc (Nat.le_refl _) (.cells #[.int .i64 p.code, .int .i64 p.id, .slice A p.opts.length c, .string p.data] 41)) (by simp) hb1); have HN1 := Lib.hid hn1; have HK1 := Lib.hid hk1; clear hb1 hn1 hk1))
      clear s1 p2
      refine (clone_any p.opts A p.opts.length c w1 ((HR.out.below HB1.out).more HB1.out.size) rfl (by omega)).mono ?_
      rintro e w2 ⟨cv, rfl, hcv, hb2⟩
      obtain ⟨Ac, cc, rfl, hcc, _, _⟩ := own_shape hcv
      have hk2 := Blk.below HK1.out hb2 HK1.out.lt
      have k0 : w2.cell? ⟨w.heap.size, 0, none⟩ = some (.int .i64 p.code) := hk2.cell 0
      have k1 : w2.cell? ⟨w.heap.size, 1, none⟩ = some (.int .i64 p.id) := hk2.cell 1
      have k2 : w2.cell? ⟨w.heap.size, 2, none⟩ = some (.slice A p.opts.length c) := hk2.cell 2
      have k3 : w2.cell? ⟨w.heap.size, 3, none⟩ = some (.string p.data) := hk2.cell 3
      have kf := hk2.frozen
      have hG : w2.grownBy (w2.setCell ⟨w.heap.size, 2, none⟩ (.slice Ac p.opts.length cc)) (some w.heap.size) := only_setCell (World.grownBy.refl w2 _) (.inl rfl) _
      have hN1 : NegTo w w1 g t v n := ⟨HN1.out, only_of_below HB1.out _⟩
      have hN3 := (hN1.below hb2).fresh hG hk2 hgl (Nat.le_refl _) (by decide) (by decide)
      have hC3 := own_grown' hcv hG (own_blk_ne hcv hk2 (by decide))
      have hz2 : w.heap.size < w2.heap.size := hk2.lt
      have HN4 := Lib.hid (hN3.alloc (.cells #[.int .i64 p.code, .int .i64 p.id, .slice Ac p.opts.length cc, .string p.data, .int .i64 0, .int .i64 0, .slice none 0 0] 62))
      have hz3 : (w2.setCell ⟨w.heap.size, 2, none⟩ (.slice Ac p.opts.length cc)).heap.size = w2.heap.size := by simp [World.setCell]
      have HR4 := Lib.hid (show RepAt ((w2.setCell ⟨w.heap.size, 2, none⟩ (.slice Ac p.opts.length cc)).alloc (.cells #[.int .i64 p.code, .int .i64 p.id, .slice Ac p.opts.length cc, .string p.data, .int .i64 0, .int .i64 0, .slice none 0 0] 62)) w2.heap.size (.slice Ac p.opts.length cc) (.slice none 0 0) (repOf p) from
        ⟨by rw [← hz3]; exact Blk.new (w2.setCell ⟨w.heap.size, 2, none⟩ (.slice Ac p.opts.length cc)) 62 _, (own_base hC3 (Nat.zero_le _)).alloc _, World.ownsRow_nil _ _ _ _, ⟨by show p.opts.length ≤ 2048; omega, by simp [repOf], fun o ho => by have := hsz o ho; omega, by simp [repOf], by show p.data.size ≤ _; omega⟩⟩)
      clear hz3 hk2 hG hN1 hN3 hC3 hcv hb2
      go_wp2_with fail
      clear k0 k1 k2 k3 kf e0 e1 hz
      refine (event_any w _ g t w2.heap.size v _ _ n (repOf p) HN4.out HR4.out (by omega) hgl).mono ?_
      rintro e w5 ⟨rfl, hev⟩
      have HN5 := Lib.hid hev.neg
      have hrep := hev.rep
      obtain ⟨ov, hR5⟩ := hrep
      have HR5 := Lib.hid hR5
      clear hev hR5 HN4 HR4 HPUT HR HN HK1 HB1 HN1
      generalize eventD n (repOf p) = E at *
      obtain ⟨n5, r5, ev, b⟩ := E
      simp only at HN5 HR5 HRG HD ⊢
      have hm5 := HM.out.grown HN5.out.grown (H.out.ne_zero HM.out)
      have HM5 := Lib.hid hm5
      clear hm5
      cases b with
      | false =>
        go_wp2_with fail
        go_ret2
        refine ⟨?_⟩
        rw [HD.out]
        exact ⟨.slice none 0 0, v, rfl, HN5.out, [], rfl, ⟨World.ownsRow_nil _ _ _ _, (fun _ h => by simp at h), (fun _ h => by simp at h)⟩⟩
      | true =>
        go_wp2_with fail
        refine (do_any w w5 g t w2.heap.size v _ ov n5 r5 ev HN5.out HR5.out (by omega) hgl HM5.out HRG.out.1 HRG.out.2).mono ?_
        rintro e w6 ⟨V, v', rfl, hn6, hp6⟩
        go_wp2_with fail
        go_ret2
        refine ⟨?_⟩
        rw [HD.out]
        exact ⟨V, v', rfl, hn6, hp6⟩
  · have HD := Lib.hid (show takeD n p = (n, [], 1500) by unfold takeD; rw [if_pos he])
    have hz : ((controlPut p).2 != 0) = true := by simpa using he
    go_enter Tryd.func18, Tryd.ntmps18
    go_wp2_with (go_at_call 27; refine HPUT.out.mono ?_; rintro e w1 ⟨rfl, hb1⟩)
    go_ret2
    refine ⟨?_⟩
    rw [HD.out]
    exact ⟨.slice none 0 0, v, rfl, ⟨(H.out.alloc _).below hb1, only_below (only_alloc (World.grownBy.refl _ _) _) hb1⟩, [], rfl, ⟨World.ownsRow_nil _ _ _ _, (fun _ h => by simp at h), (fun _ h => by simp at h)⟩⟩
end Go.Proofs.YthlfghheciamcaaDoor
