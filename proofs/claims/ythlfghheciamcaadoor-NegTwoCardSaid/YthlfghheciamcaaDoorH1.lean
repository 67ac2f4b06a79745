/-
  Contracts of the exported methods: Do, the getters; New.
  Conditions: the variable internal/bytealg.MaxLen holds an int; as each states.
-/
import Derived.Test.YthlfghheciamcaaDoorG9
namespace Go.Proofs.YthlfghheciamcaaDoor
open Go.RowKit
set_option linter.unusedVariables false

def noRep : RepD := ⟨noPack, 0, 0, []⟩
def evFix (n : NegD) (ev : Int) : Int := if ev = 4 ∧ n.left = 0 then 5 else ev
def userDo (n : NegD) (ev : Int) : NegD × List PackD × Int := if 0 ≤ ev ∧ ev ≤ 4 then doD n (evFix n ev) noRep else (n, [], 1500)

theorem noRep_at (w : World) : RepAt (w.alloc (.cells #[.int .i64 0, .int .i64 0, .slice none 0 0, .string ⟨#[]⟩, .int .i64 0, .int .i64 0, .slice none 0 0] 62)) w.heap.size (.slice none 0 0) (.slice none 0 0) noRep :=
  ⟨Blk.new w 62 _, World.ownsRow_nil _ _ _ _, World.ownsRow_nil _ _ _ _, ⟨by decide, by decide, (fun _ h => by simp [noRep, noPack] at h), (fun _ h => by simp [noRep] at h), by decide⟩⟩

set_option maxRecDepth 100000 in
set_option maxHeartbeats 2000000 in
theorem Do_bad (g t : Nat) (v : Value) (n : NegD) (ev : Int) (w : World) (h : NegAt w g t v n) (hev : ¬ (0 ≤ ev ∧ ev ≤ 4)) :
    Calls Tryd.prog 15 #[.pointer (some ⟨g, 0, none⟩), .int .i64 ev] w fun e w' => e = .returned (.tuple #[.slice none 0 0, .int .i64 1500]) ∧ w = w' := by
  have e0 : (ev == 0) = false := beq_eq_false_iff_ne.2 (by omega)
  have e1 : (ev == 1) = false := beq_eq_false_iff_ne.2 (by omega)
  have e2 : (ev == 2) = false := beq_eq_false_iff_ne.2 (by omega)
  have e3 : (ev == 3) = false := beq_eq_false_iff_ne.2 (by omega)
  have e4 : (ev == 4) = false := beq_eq_false_iff_ne.2 (by omega)
  clear hev
  go_enter Tryd.func15, Tryd.ntmps15
  go_wp2_with fail
  go_ret2
  exact ⟨rfl, rfl⟩

set_option maxRecDepth 100000 in
set_option maxHeartbeats 2000000 in
theorem Do_good (g t : Nat) (v : Value) (n : NegD) (ev : Int) (w : World) (h : NegAt w g t v n) (hm : HasMax w) (h0 : 0 ≤ ev) (h4 : ev ≤ 4) :
    Calls Tryd.prog 15 #[.pointer (some ⟨g, 0, none⟩), .int .i64 ev] w fun e w' =>
      ∃ V v', e = .returned (.tuple #[V, .int .i64 (doD n (evFix n ev) noRep).2.2]) ∧ NegTo w w' g t v' (doD n (evFix n ev) noRep).1 ∧ PacksAt w' w.heap.size V v' (doD n (evFix n ev) noRep).2.1 := by
  have HD := Lib.hid (do_any w (w.alloc (.cells #[.int .i64 0, .int .i64 0, .slice none 0 0, .string ⟨#[]⟩, .int .i64 0, .int .i64 0, .slice none 0 0] 62)) g t w.heap.size v _ _ n noRep (evFix n ev) ⟨h.alloc _, only_alloc (World.grownBy.refl _ _) _⟩ (noRep_at w) (Nat.le_refl _) h.lt (hm.below ((Below.refl _ _).alloc (Nat.le_refl _) _) hm.pos) (by unfold evFix; split <;> omega) (by unfold evFix; split <;> omega))
  have c2 : w.cell? ⟨g, 2, none⟩ = some (.int .i64 n.left) := h.blk.cell 2
  generalize doD n (evFix n ev) noRep = D at *
  have hc : (¬ ev = 4) ∨ ev = 4 := by omega
  rcases hc with hc | rfl
  · have hf : evFix n ev = ev := by unfold evFix; rw [if_neg (by omega)]
    rw [hf] at HD
    have hcs : ev = 0 ∨ ev = 1 ∨ ev = 2 ∨ ev = 3 := by omega
    clear hf hc h0 h4
    rcases hcs with rfl | rfl | rfl | rfl
    all_goals
      go_enter Tryd.func15, Tryd.ntmps15
      go_wp2_with (go_at_call 26; refine HD.out.mono ?_; rintro e w' ⟨V, v', rfl, hn, hp⟩)
      go_ret2
      exact ⟨V, v', rfl, hn, hp⟩
  · rcases hz : (n.left == 0) with _ | _
    · have hf : evFix n 4 = 4 := by unfold evFix; rw [if_neg (by simp at hz; omega)]
      rw [hf] at HD
      clear hf
      go_enter Tryd.func15, Tryd.ntmps15
      go_wp2_with (go_at_call 26; refine HD.out.mono ?_; rintro e w' ⟨V, v', rfl, hn, hp⟩)
      go_ret2
      exact ⟨V, v', rfl, hn, hp⟩
    · have hf : evFix n 4 = 5 := by unfold evFix; rw [if_pos ⟨rfl, by simpa using hz⟩]
      rw [hf] at HD
      clear hf
      go_enter Tryd.func15, Tryd.ntmps15
      go_wp2_with (go_at_call 26; refine HD.out.mono ?_; rintro e w' ⟨V, v', rfl, hn, hp⟩)
      go_ret2
      exact ⟨V, v', rfl, hn, hp⟩

theorem Do_any (g t : Nat) (v : Value) (n : NegD) (ev : Int) (w : World) (h : NegAt w g t v n) (hm : HasMax w) :
    Calls Tryd.prog 15 #[.pointer (some ⟨g, 0, none⟩), .int .i64 ev] w fun e w' =>
      ∃ V v', e = .returned (.tuple #[V, .int .i64 (userDo n ev).2.2]) ∧ NegTo w w' g t v' (userDo n ev).1 ∧ PacksAt w' w.heap.size V v' (userDo n ev).2.1 := by
  by_cases hev : 0 ≤ ev ∧ ev ≤ 4
  · have e : userDo n ev = doD n (evFix n ev) noRep := by unfold userDo; rw [if_pos hev]
    rw [e]
    exact Do_good g t v n ev w h hm hev.1 hev.2
  · have e : userDo n ev = (n, [], 1500) := by unfold userDo; rw [if_neg hev]
    rw [e]
    refine (Do_bad g t v n ev w h hev).mono ?_
    rintro e w' ⟨rfl, rfl⟩
    exact ⟨.slice none 0 0, v, rfl, ⟨h, World.grownBy.refl _ _⟩, [], rfl, ⟨World.ownsRow_nil _ _ _ _, (fun _ h => by simp at h), (fun _ h => by simp at h)⟩⟩

theorem State_any (g t : Nat) (v : Value) (n : NegD) (w : World) (h : NegAt w g t v n) :
    Calls Tryd.prog 16 #[.pointer (some ⟨g, 0, none⟩)] w fun e w' => e = .returned (.int .i64 n.state) ∧ w = w' := by
  have c1 : w.cell? ⟨g, 1, none⟩ = some (.int .i64 n.state) := h.blk.cell 1
  go_enter Tryd.func16, Tryd.ntmps16
  go_wp2
  go_ret
  exact ⟨rfl, rfl⟩
theorem Left_any (g t : Nat) (v : Value) (n : NegD) (w : World) (h : NegAt w g t v n) :
    Calls Tryd.prog 21 #[.pointer (some ⟨g, 0, none⟩)] w fun e w' => e = .returned (.int .i64 n.left) ∧ w = w' := by
  have c1 : w.cell? ⟨g, 2, none⟩ = some (.int .i64 n.left) := h.blk.cell 2
  go_enter Tryd.func21, Tryd.ntmps21
  go_wp2
  go_ret
  exact ⟨rfl, rfl⟩
theorem Own_any (g t : Nat) (v : Value) (n : NegD) (w : World) (h : NegAt w g t v n) :
    Calls Tryd.prog 20 #[.pointer (some ⟨g, 0, none⟩)] w fun e w' => e = .returned (.agg n.own.cells) ∧ Below w.heap.size w w' := by
  have c4 : w.cell? ⟨g, 4, none⟩ = some (.int .i64 n.own.mru) := h.blk.cell 4
  have c5 : w.cell? ⟨g, 5, none⟩ = some (.int .i64 n.own.magic) := h.blk.cell 5
  have c6 : w.cell? ⟨g, 6, none⟩ = some (.int .i64 n.own.mrru) := h.blk.cell 6
  have c7 : w.cell? ⟨g, 7, none⟩ = some (.bool n.own.short) := h.blk.cell 7
  have c8 : w.cell? ⟨g, 8, none⟩ = some (.string n.own.disc) := h.blk.cell 8
  have c9 : w.cell? ⟨g, 9, none⟩ = some (.int .i64 n.own.num) := h.blk.cell 9
  have hlt := h.lt
  go_enter Tryd.func20, Tryd.ntmps20
  go_wp2
  exact bodyPost_ret (v := .agg n.own.cells) (by simp [results, Tryd.results20, go_sem, LinkD.cells]) rfl ⟨rfl, (Below.refl _ _).alloc (Nat.le_refl _) _⟩
theorem Other_any (g t : Nat) (v : Value) (n : NegD) (w : World) (h : NegAt w g t v n) :
    Calls Tryd.prog 22 #[.pointer (some ⟨g, 0, none⟩)] w fun e w' => e = .returned (.agg n.other.cells) ∧ Below w.heap.size w w' := by
  have c4 : w.cell? ⟨g, 10, none⟩ = some (.int .i64 n.other.mru) := h.blk.cell 10
  have c5 : w.cell? ⟨g, 11, none⟩ = some (.int .i64 n.other.magic) := h.blk.cell 11
  have c6 : w.cell? ⟨g, 12, none⟩ = some (.int .i64 n.other.mrru) := h.blk.cell 12
  have c7 : w.cell? ⟨g, 13, none⟩ = some (.bool n.other.short) := h.blk.cell 13
  have c8 : w.cell? ⟨g, 14, none⟩ = some (.string n.other.disc) := h.blk.cell 14
  have c9 : w.cell? ⟨g, 15, none⟩ = some (.int .i64 n.other.num) := h.blk.cell 15
  have hlt := h.lt
  go_enter Tryd.func22, Tryd.ntmps22
  go_wp2
  exact bodyPost_ret (v := .agg n.other.cells) (by simp [results, Tryd.results22, go_sem, LinkD.cells]) rfl ⟨rfl, (Below.refl _ _).alloc (Nat.le_refl _) _⟩

/-! ### New -/
def newFits (l : LinkD) (tries : Int) : Bool := l.may && (decide (1 ≤ tries) && decide (tries ≤ 10))
def newD (l : LinkD) (tries : Int) : NegD := ⟨0, 0, tries, l, zeroL, 0, -1, []⟩

theorem newD_fit (l : LinkD) {tries : Int} (h1 : 1 ≤ tries) (h10 : tries ≤ 10) : NegFit (newD l tries) := by
  constructor <;> simp [newD] <;> omega

theorem New_no (l : LinkD) (tries : Int) (w : World) (hf : newFits l tries = false) :
    Calls Tryd.prog 12 #[.agg #[.int .i64 l.mru, .int .i64 l.magic, .int .i64 l.mrru, .bool l.short, .string l.disc, .int .i64 l.num], .int .i64 tries] w fun e w' => e = .returned (.tuple #[.pointer none, .int .i64 1500]) ∧ Below w.heap.size w w' := by
  have hc : l.may = false ∨ (l.may = true ∧ tries < 1) ∨ (l.may = true ∧ ¬ tries < 1 ∧ 10 < tries) := by
    cases hm : l.may with
    | false => exact .inl rfl
    | true =>
      refine .inr ?_
      by_cases a : tries < 1
      · exact .inl ⟨rfl, a⟩
      · refine .inr ⟨rfl, a, ?_⟩
        by_cases b : 10 < tries
        · exact b
        · have : newFits l tries = true := by simp [newFits, hm]; omega
          rw [this] at hf
          cases hf
  clear hf
  rcases hc with hm | ⟨hm, h1⟩ | ⟨hm, h1, h2⟩
  · go_enter Tryd.func12, Tryd.ntmps12
    go_wp2_with (go_at_call 23; refine (may_any l _).mono ?_; rintro e w1 ⟨rfl, hb1⟩)
    go_ret2
    exact ⟨rfl, below_trans' ((Below.refl _ _).alloc (Nat.le_refl _) _) (by simp) hb1⟩
  · have d1 : decide (tries < 1) = true := by simpa using h1
    go_enter Tryd.func12, Tryd.ntmps12
    go_wp2_with (go_at_call 23; refine (may_any l _).mono ?_; rintro e w1 ⟨rfl, hb1⟩)
    go_ret2
    exact ⟨rfl, below_trans' ((Below.refl _ _).alloc (Nat.le_refl _) _) (by simp) hb1⟩
  · have d1 : decide (tries < 1) = false := by simpa using h1
    have d2 : decide (10 < tries) = true := by simpa using h2
    clear h1
    go_enter Tryd.func12, Tryd.ntmps12
    go_wp2_with (go_at_call 23; refine (may_any l _).mono ?_; rintro e w1 ⟨rfl, hb1⟩)
    go_ret2
    exact ⟨rfl, below_trans' ((Below.refl _ _).alloc (Nat.le_refl _) _) (by simp) hb1⟩

set_option maxRecDepth 100000 in
set_option maxHeartbeats 2000000 in
theorem New_yes (l : LinkD) (tries : Int) (w : World) (hf : newFits l tries = true) :
    Calls Tryd.prog 12 #[.agg #[.int .i64 l.mru, .int .i64 l.magic, .int .i64 l.mrru, .bool l.short, .string l.disc, .int .i64 l.num], .int .i64 tries] w fun e w' =>
      ∃ g t v, e = .returned (.tuple #[.pointer (some ⟨g, 0, none⟩), .int .i64 0]) ∧ NegAt w' g t v (newD l tries) ∧ Below w.heap.size w w' ∧ w.heap.size ≤ g := by
  have hc : l.may = true ∧ 1 ≤ tries ∧ tries ≤ 10 := by simpa [newFits] using hf
  obtain ⟨hm, h1, h10⟩ := hc
  have d1 : decide (tries < 1) = false := by simp; omega
  have d2 : decide (10 < tries) = false := by simp; omega
  clear hf
  go_enter Tryd.func12, Tryd.ntmps12
  go_wp2_with (go_at_call 23; refine (may_any l _).mono ?_; rintro e w1 ⟨rfl, hb1⟩)
  have hl1 := LinkAt.below (LinkAt.new w l) hb1
  have HB1 := Lib.hid (below_trans' ((Below.refl w.heap.size w).alloc (Nat.le_refl _) (.cells l.cells 23)) (by simp) hb1)
  obtain ⟨c0, c1, c2, c3, c4, c5⟩ := hl1.cells
  have n0 := Near.cell c0
  have n1 := Near.cell c1
  have n2 := Near.cell c2
  have n3 := Near.cell c3
  have n4 := Near.cell c4
  have n5 := Near.cell c5
  clear hb1 hl1 c0 c1 c2 c3 c4 c5 d1 d2 hm
  refine wp_region_sched [(2, false), (3, false), (0, true), (1, false), (4, false), (5, true), (6, false), (7, false)] (Near.v (w := w1)) (nearC w1) (okay_near w1) (by kernel_rfl) rfl (by kernel_rfl) (by kernel_rfl) ⟨⟨_, (Below.refl _ _).drew⟩, rfl⟩ ?_
  iterate 2 (refine sched_quiet rfl (fun K hK => ?_); go_simp; first | (refine hK _ ?_; clear hK K) | (apply Exists.intro; refine ⟨fun _ => ?_, hK _ ?_⟩; (fail); clear hK K))
  clear n0 n1 n2 n3 n4 n5
  refine sched_eff rfl rfl (fun K hK w2 hw2 => ?_)
  go_simp
  obtain ⟨x, rfl⟩ := hw2
  refine (made_any x.v).mono ?_
  rintro e w3 ⟨rfl, rfl⟩
  refine ⟨_, rfl, nearC _, okay_near_of (x.below.alloc x.below.size _), nearC_self _, hK _ _ ?_⟩
  clear hK K
  iterate 2 (refine sched_quiet rfl (fun K hK => ?_); go_simp; first | (refine hK _ ?_; clear hK K) | (apply Exists.intro; refine ⟨fun _ => ?_, hK _ ?_⟩; (fail); clear hK K))
  refine sched_eff rfl rfl (fun K hK w4 hw4 => ?_)
  go_simp
  obtain ⟨y, rfl⟩ := hw4
  have hn5 : NegAt (y.v.alloc (.cells ((newD l tries).cells x.v.heap.size (.slice none 0 0)) 57)) y.v.heap.size x.v.heap.size (.slice none 0 0) (newD l tries) :=
    ⟨Blk.new y.v 57 _, Blk.alloc (Blk.below (Blk.new x.v 71 tabCells) y.below (by simp)) _, World.ownsRow_nil _ _ _ _, newD_fit l h1 h10⟩
  have hb5 : Below w1.heap.size w1 (y.v.alloc (.cells ((newD l tries).cells x.v.heap.size (.slice none 0 0)) 57)) :=
    (below_trans' (x.below.alloc x.below.size _) (by simp; have := x.below.size; omega) y.below).alloc (Nat.le_trans (by simp; have := x.below.size; omega) y.below.size) _
  have hgy : w.heap.size ≤ y.v.heap.size := by have h1 := HB1.out.size; have h2 := x.below.size; have h3 := y.below.size; simp at h3; omega
  have HN5 := Lib.hid hn5
  refine ⟨nearC _, okay_near_of hb5, nearC_self _, hK _ _ ?_⟩
  clear hK K hn5
  iterate 2 (refine sched_quiet rfl (fun K hK => ?_); go_simp; first | (refine hK _ ?_; clear hK K) | (apply Exists.intro; refine ⟨fun _ => ?_, hK _ ?_⟩; (fail); clear hK K))
  refine sched_nil ?_
  rintro w6 ⟨z, rfl⟩
  go_wp2_with fail
  go_ret2
  exact ⟨y.v.heap.size, x.v.heap.size, .slice none 0 0, rfl, HN5.out.below z.below, below_trans' (below_trans' HB1.out HB1.out.size hb5) (Nat.le_trans HB1.out.size hb5.size) z.below, hgy⟩
end Go.Proofs.YthlfghheciamcaaDoor
