/-
  A side that negotiates, in memory; contracts: a step of the table at numbers, the automaton's step, the counter, the next id.
  Conditions: the variable internal/bytealg.MaxLen holds an int; as each states.
-/
import Derived.Test.YthlfghheciamcaaDoorF3
import Derived.Test.YthlfghheciamcaaDoorX
namespace Go.Proofs.YthlfghheciamcaaDoor
open Go.RowKit
set_option linter.unusedVariables false

theorem tab_at (k : Nat) (h : k < 160) : tabCells[k]? = some (.string (tabL[k]?.getD ⟨#[]⟩)) := by
  have hl : k < tabL.length := by rw [tab_len]; exact h
  unfold tabCells
  simp [hl]
theorem tab_ok (k : Nat) (h : k < 160) : cellOk (tabL[k]?.getD ⟨#[]⟩) = true := by
  have hl : k < tabL.length := by rw [tab_len]; exact h
  rw [List.getElem?_eq_getElem hl]
  exact List.all_eq_true.1 cells_ok _ (List.getElem_mem hl)
theorem stepD_in (s e : Nat) (hs : s < 10) (he : e < 16) : stepD s e = stepC (tabL[e * 10 + s]?.getD ⟨#[]⟩) := by
  unfold stepD
  rw [if_neg (by omega)]
  simp
theorem step_any (t : Nat) (s e : Int) (h0 : 0 ≤ s) (h1 : s < 10) (h2 : 0 ≤ e) (h3 : e < 16) (w : World) (ht : TableAt w t) (hm : HasMax w) :
    Calls Tryd.prog 43 #[.pointer (some ⟨t, 0, none⟩), .int .i64 s, .int .i64 e] w fun r w' =>
      ∃ v, r = .returned (.tuple #[.int .i64 (stepD s e).1, v, .int .i64 (stepD s e).2.2]) ∧ w'.ownsRow w.heap.size 3 1 v (stepD s e).2.1.length (intCells (stepD s e).2.1) ∧ Below w.heap.size w w' := by
  obtain ⟨s, rfl⟩ := Int.eq_ofNat_of_zero_le h0
  obtain ⟨e, rfl⟩ := Int.eq_ofNat_of_zero_le h2
  rw [stepD_in s e (by omega) (by omega)]
  exact step_in t s e (by omega) (by omega) _ w ((ht.cell _).trans (tab_at _ (by omega))) hm (tab_ok _ (by omega))

/-! ### a side in memory -/
structure NegD where
  state : Int
  left : Int
  tries : Int
  own : LinkD
  other : LinkD
  id : Int
  asked : Int
  os : List OptD

def NegD.cells (n : NegD) (t : Nat) (v : Value) : Array Value :=
  #[.pointer (some ⟨t, 0, none⟩), .int .i64 n.state, .int .i64 n.left, .int .i64 n.tries,
    .int .i64 n.own.mru, .int .i64 n.own.magic, .int .i64 n.own.mrru, .bool n.own.short, .string n.own.disc, .int .i64 n.own.num,
    .int .i64 n.other.mru, .int .i64 n.other.magic, .int .i64 n.other.mrru, .bool n.other.short, .string n.other.disc, .int .i64 n.other.num,
    .int .i64 n.id, .int .i64 n.asked, v]

/-- the numbers of a side are in their ranges -/
structure NegFit (n : NegD) : Prop where
  s0 : 0 ≤ n.state
  s1 : n.state < 10
  l0 : 0 ≤ n.left
  l1 : n.left ≤ 10
  t0 : 1 ≤ n.tries
  t1 : n.tries ≤ 10
  i0 : 0 ≤ n.id
  i1 : n.id < 256
  a0 : -1 ≤ n.asked
  a1 : n.asked < 256
  os : n.os.length ≤ 6

structure NegAt (w : World) (g t : Nat) (v : Value) (n : NegD) : Prop where
  blk : Blk w g 57 (n.cells t v)
  tab : TableAt w t
  row : w.ownsRow 0 79 2 v n.os.length (optCells n.os)
  fit : NegFit n

theorem NegAt.lt {w : World} {g t : Nat} {v : Value} {n : NegD} (h : NegAt w g t v n) : g < w.heap.size := h.blk.lt
theorem NegAt.drewN {w : World} {g t : Nat} {v : Value} {n : NegD} (h : NegAt w g t v n) (k : Nat) : NegAt (w.drewN k) g t v n := ⟨h.blk, h.tab, h.row, h.fit⟩
theorem NegAt.drew {w : World} {g t : Nat} {v : Value} {n : NegD} (h : NegAt w g t v n) : NegAt w.drew g t v n := ⟨h.blk, h.tab, h.row, h.fit⟩
theorem NegAt.alloc {w : World} {g t : Nat} {v : Value} {n : NegD} (h : NegAt w g t v n) (o : Obj) : NegAt (w.alloc o) g t v n := ⟨h.blk.alloc o, Blk.alloc h.tab o, h.row.alloc o, h.fit⟩
theorem NegAt.below {w w' : World} {g t : Nat} {v : Value} {n : NegD} (h : NegAt w g t v n) (hb : Below w.heap.size w w') : NegAt w' g t v n :=
  ⟨h.blk.below hb h.blk.lt, Blk.below h.tab hb (Blk.lt h.tab), own_below h.row hb, h.fit⟩
/-- another block has turned -/
theorem NegAt.grown {w w' : World} {g t k : Nat} {v : Value} {n : NegD} (h : NegAt w g t v n) (hb : w.grownBy w' (some k)) (hg : k ≠ g) (ht : k ≠ t) (hv : v.ownBlock ≠ some k) : NegAt w' g t v n :=
  ⟨h.blk.grown hb (by simpa using fun e => hg e.symm), Blk.grown h.tab hb (by simpa using fun e => ht e.symm), h.row.kept hb (.inr hv), h.fit⟩
/-- a block of another type has turned -/
theorem NegAt.beside {w w' : World} {g t k : Nat} {v : Value} {n : NegD} {T : TypeId} {cs : Array Value} (h : NegAt w g t v n) (hb : w.grownBy w' (some k)) (hk : Blk w k T cs) (hg : k ≠ g) (ht : T ≠ 71) (hv : T ≠ 79) : NegAt w' g t v n :=
  h.grown hb hg (hk.ne_ h.tab ht) (own_blk_ne h.row hk (fun e => hv e.symm))

/-- a side behind a change of its own block -/
structure NegTo (w w' : World) (g t : Nat) (v : Value) (n : NegD) : Prop where
  at_ : NegAt w' g t v n
  grown : w.grownBy w' (some g)
theorem NegTo.trans {w w1 w2 : World} {g t : Nat} {v v' : Value} {n n' : NegD} (h : NegTo w w1 g t v n) (k : NegTo w1 w2 g t v' n') : NegTo w w2 g t v' n' := ⟨k.at_, grown_row h.grown k.grown⟩
theorem only_below {a w w' : World} {row : Option Nat} (h : a.grownBy w row) (k : Below w.heap.size w w') : a.grownBy w' row := grown_row h (only_of_below k row)
theorem NegTo.below {w w1 w2 : World} {g t : Nat} {v : Value} {n : NegD} (h : NegTo w w1 g t v n) (k : Below w1.heap.size w1 w2) : NegTo w w2 g t v n := ⟨h.at_.below k, only_below h.grown k⟩
theorem NegTo.alloc {w w1 : World} {g t : Nat} {v : Value} {n : NegD} (h : NegTo w w1 g t v n) (o : Obj) : NegTo w (w1.alloc o) g t v n := ⟨h.at_.alloc o, only_alloc h.grown o⟩
theorem NegTo.drewN {w w1 : World} {g t : Nat} {v : Value} {n : NegD} (h : NegTo w w1 g t v n) (k : Nat) : NegTo w (w1.drewN k) g t v n := ⟨h.at_.drewN k, only_drewN h.grown k⟩
theorem HasMax.grown {w w' : World} {g : Nat} (h : HasMax w) (hg : w.grownBy w' (some g)) (h0 : g ≠ 0) : HasMax w' := by
  obtain ⟨m, hm⟩ := h
  exact ⟨m, hg.cell hm (by simpa using fun e => h0 e.symm)⟩

/-- one number of a side's own block has turned -/
theorem NegAt.put {w : World} {g t : Nat} {v : Value} {n n' : NegD} (h : NegAt w g t v n) (i : Nat) (u : Value) (he : (n.cells t v).setIfInBounds i u = n'.cells t v) (ho : n'.os = n.os) (hf : NegFit n') :
    NegTo w (w.setCell ⟨g, i, none⟩ u) g t v n' :=
  ⟨⟨by rw [← he]; exact h.blk.set_ i u, Blk.far h.tab (p := ⟨g, i, none⟩) (Blk.ne_ h.tab h.blk (by decide)) u,
    by rw [ho]; exact h.row.kept (only_setCell (World.grownBy.refl w _) (p := ⟨g, i, none⟩) (.inl rfl) u) (.inr (own_blk_ne h.row h.blk (by decide))), hf⟩,
    only_setCell (World.grownBy.refl w _) (.inl rfl) u⟩

/-- the options last asked for have turned -/
theorem NegAt.putOs {w : World} {g t : Nat} {v v' : Value} {n n' : NegD} {os' : List OptD} (h : NegAt w g t v n) (he : (n.cells t v).setIfInBounds 18 v' = n'.cells t v') (ho : n'.os = os') (hr : w.ownsRow 0 79 2 v' os'.length (optCells os')) (hf : NegFit n') :
    NegTo w (w.setCell ⟨g, 18, none⟩ v') g t v' n' :=
  ⟨⟨by rw [← he]; exact h.blk.set_ 18 v', Blk.far h.tab (p := ⟨g, 18, none⟩) (Blk.ne_ h.tab h.blk (by decide)) v',
    by rw [ho]; exact hr.kept (only_setCell (World.grownBy.refl w _) (p := ⟨g, 18, none⟩) (.inl rfl) v') (.inr (own_blk_ne hr h.blk (by decide))), hf⟩,
    only_setCell (World.grownBy.refl w _) (.inl rfl) v'⟩

set_option maxHeartbeats 1000000 in
theorem count_any (g t : Nat) (v : Value) (n : NegD) (w : World) (h : NegAt w g t v n) :
    Calls Tryd.prog 44 #[.pointer (some ⟨g, 0, none⟩)] w fun r w' => r = .returned (.tuple #[]) ∧ NegTo w w' g t v { n with left := max 0 (n.left - 1) } := by
  have c2 : w.cell? ⟨g, 2, none⟩ = some (.int .i64 n.left) := h.blk.cell 2
  have f2 := h.blk.frozen 2
  have l0 := h.fit.l0
  have l1 := h.fit.l1
  go_enter Tryd.func44, Tryd.ntmps44
  go_wp2
  go_end0
  exact ⟨rfl, h.put 2 _ rfl rfl { h.fit with l0 := by show 0 ≤ max 0 (n.left - 1); omega, l1 := by show max 0 (n.left - 1) ≤ 10; omega }⟩

def nextI (i : Int) : Int := (i + 1) % 256
set_option maxHeartbeats 1000000 in
theorem next_any (g t : Nat) (v : Value) (n : NegD) (w : World) (h : NegAt w g t v n) :
    Calls Tryd.prog 45 #[.pointer (some ⟨g, 0, none⟩)] w fun r w' => r = .returned (.int .i64 (nextI n.id)) ∧ NegTo w w' g t v { n with id := nextI n.id } := by
  have c2 : w.cell? ⟨g, 16, none⟩ = some (.int .i64 n.id) := h.blk.cell 16
  have f2 := h.blk.frozen 16
  have l0 := h.fit.i0
  have l1 := h.fit.i1
  go_enter Tryd.func45, Tryd.ntmps45
  go_wp2
  go_ret
  exact ⟨rfl, h.put 16 _ rfl rfl { h.fit with i0 := by show 0 ≤ (n.id + 1) % 256; omega, i1 := by show (n.id + 1) % 256 < 256; omega }⟩

theorem cell_states : (tabL.all fun c => decide (0 ≤ (stepC c).1) && decide ((stepC c).1 < 10)) = true := by decide +kernel
theorem step_state (s e : Int) (h0 : 0 ≤ s) (h1 : s < 10) (h2 : 0 ≤ e) (h3 : e < 16) : 0 ≤ (stepD s e).1 ∧ (stepD s e).1 < 10 := by
  obtain ⟨s, rfl⟩ := Int.eq_ofNat_of_zero_le h0
  obtain ⟨e, rfl⟩ := Int.eq_ofNat_of_zero_le h2
  rw [stepD_in s e (by omega) (by omega)]
  have hl : e * 10 + s < tabL.length := by rw [tab_len]; omega
  rw [List.getElem?_eq_getElem hl]
  have := List.all_eq_true.1 cell_states _ (List.getElem_mem hl)
  simpa using this
theorem own_ne_block {w : World} {base g n : Nat} {e T : TypeId} {size : Nat} {u : Value} {xs : List Value} {cs : Array Value} (h : w.ownsRow base e size u n xs) (hg : Blk w g T cs) (hne : e ≠ T) : u.ownBlock ≠ some g := own_blk_ne h hg hne
theorem own_grown' {w w' : World} {base : Nat} {e : TypeId} {size n g : Nat} {v : Value} {xs : List Value} (h : w.ownsRow base e size v n xs) (hg : w.grownBy w' (some g)) (hn : v.ownBlock ≠ some g) : w'.ownsRow base e size v n xs := h.kept hg (.inr hn)
set_option maxRecDepth 100000 in
set_option maxHeartbeats 1000000 in
theorem astep_ok (g t : Nat) (v : Value) (n : NegD) (ev : Int) (nx er : Int) (acts : List Int) (w : World) (h : NegAt w g t v n) (hm : HasMax w) (h2 : 0 ≤ ev) (h3 : ev < 16) (hS : stepD n.state ev = (nx, acts, er)) (hz : (er != 0) = false) :
    Calls Tryd.prog 33 #[.pointer (some ⟨g, 0, none⟩), .int .i64 ev] w fun r w' => ∃ u, r = .returned (.tuple #[u, .int .i64 0]) ∧ NegTo w w' g t v { n with state := nx } ∧ w'.ownsRow w.heap.size 3 1 u acts.length (intCells acts) := by
  have c0 : w.cell? ⟨g, 0, none⟩ = some (.pointer (some ⟨t, 0, none⟩)) := h.blk.cell 0
  have c1 : w.cell? ⟨g, 1, none⟩ = some (.int .i64 n.state) := h.blk.cell 1
  have f1 := h.blk.frozen 1
  have HST := Lib.hid (step_state n.state ev h.fit.s0 h.fit.s1 h2 h3)
  rw [hS] at HST
  have HS := Lib.hid hS
  clear hS
  go_enter Tryd.func33, Tryd.ntmps33
  go_wp2_with fail
  refine wp_region_sched [(0, false), (1, false), (2, false), (3, false), (4, false), (5, false), (6, false), (7, false), (8, false), (9, true), (10, false), (11, false), (12, false), (13, false), (14, false), (15, false), (16, false)] (Near.v (w := w)) (nearC w) (okay_near w) (by kernel_rfl) rfl (by kernel_rfl) (by kernel_rfl) ⟨⟨_, (Below.refl _ _).drew⟩, rfl⟩ ?_
  have n0 := Near.cell c0
  have n1 := Near.cell c1
  have hz0 := Lib.hid hz
  clear c0 c1 hz
  iterate 9 (refine sched_quiet rfl (fun K hK => ?_); go_simp; first | (refine hK _ ?_; clear hK K) | (apply Exists.intro; refine ⟨fun _ => ?_, hK _ ?_⟩; (fail); clear hK K))
  refine sched_eff rfl rfl (fun K hK w1 hw1 => ?_)
  go_simp
  obtain ⟨x, rfl⟩ := hw1
  refine (step_any t n.state ev h.fit.s0 h.fit.s1 h2 h3 x.v (Near.blk h.tab x) (hm.below x.below hm.pos)).mono ?_
  rintro e w2 ⟨u, rfl, hown, hb2⟩
  refine ⟨_, rfl, nearC w2, okay_near_of (below_trans' x.below x.below.size hb2), nearC_self _, hK _ _ ?_⟩
  clear hK K n0 n1
  have HB2 := Lib.hid (below_trans' x.below x.below.size hb2)
  have HO := Lib.hid (own_base hown x.below.size)
  rw [HS.out] at HO
  simp only [HS.out]
  clear hb2 hown
  iterate 7 (refine sched_quiet rfl (fun K hK => ?_); go_simp; first | (refine hK _ ?_; clear hK K) | (apply Exists.intro; refine ⟨fun _ => ?_, hK _ ?_⟩; (fail); clear hK K))
  refine sched_nil ?_
  rintro w3 ⟨y, rfl⟩
  have hb3 := Lib.hid (below_trans' HB2.out HB2.out.size y.below)
  have HO3 := Lib.hid (own_below HO.out y.below)
  have h3 := Lib.hid (h.below hb3.out)
  have er0 : (er != 0) = false := hz0.out
  have d1 : y.v.cell? ⟨g, 1, none⟩ = some (.int .i64 n.state) := h3.out.blk.cell 1
  have f3 := h3.out.blk.frozen 1
  go_wp2
  go_ret2
  have hto := h3.out.put 1 (.int .i64 nx) (n' := { n with state := nx }) rfl rfl { h.fit with s0 := HST.out.1, s1 := HST.out.2 }
  exact ⟨_, rfl, ⟨hto.at_, grown_row (only_of_below hb3.out _) hto.grown⟩, own_grown' HO3.out hto.grown (own_ne_block HO3.out h3.out.blk (by decide))⟩
set_option maxRecDepth 100000 in
set_option maxHeartbeats 1000000 in
theorem astep_no (g t : Nat) (v : Value) (n : NegD) (ev : Int) (nx er : Int) (acts : List Int) (w : World) (h : NegAt w g t v n) (hm : HasMax w) (h2 : 0 ≤ ev) (h3 : ev < 16) (hS : stepD n.state ev = (nx, acts, er)) (hz : (er != 0) = true) :
    Calls Tryd.prog 33 #[.pointer (some ⟨g, 0, none⟩), .int .i64 ev] w fun r w' => r = .returned (.tuple #[.slice none 0 0, .int .i64 1501]) ∧ NegTo w w' g t v n := by
  have c0 : w.cell? ⟨g, 0, none⟩ = some (.pointer (some ⟨t, 0, none⟩)) := h.blk.cell 0
  have c1 : w.cell? ⟨g, 1, none⟩ = some (.int .i64 n.state) := h.blk.cell 1
  have f1 := h.blk.frozen 1
  have HST := Lib.hid (step_state n.state ev h.fit.s0 h.fit.s1 h2 h3)
  rw [hS] at HST
  have HS := Lib.hid hS
  clear hS
  go_enter Tryd.func33, Tryd.ntmps33
  go_wp2_with fail
  refine wp_region_sched [(0, false), (1, false), (2, false), (3, false), (4, false), (5, false), (6, false), (7, false), (8, false), (9, true), (10, false), (11, false), (12, false), (13, false), (14, false), (15, false), (16, false)] (Near.v (w := w)) (nearC w) (okay_near w) (by kernel_rfl) rfl (by kernel_rfl) (by kernel_rfl) ⟨⟨_, (Below.refl _ _).drew⟩, rfl⟩ ?_
  have n0 := Near.cell c0
  have n1 := Near.cell c1
  have hz0 := Lib.hid hz
  clear c0 c1 hz
  iterate 9 (refine sched_quiet rfl (fun K hK => ?_); go_simp; first | (refine hK _ ?_; clear hK K) | (apply Exists.intro; refine ⟨fun _ => ?_, hK _ ?_⟩; (fail); clear hK K))
  refine sched_eff rfl rfl (fun K hK w1 hw1 => ?_)
  go_simp
  obtain ⟨x, rfl⟩ := hw1
  refine (step_any t n.state ev h.fit.s0 h.fit.s1 h2 h3 x.v (Near.blk h.tab x) (hm.below x.below hm.pos)).mono ?_
  rintro e w2 ⟨u, rfl, hown, hb2⟩
  refine ⟨_, rfl, nearC w2, okay_near_of (below_trans' x.below x.below.size hb2), nearC_self _, hK _ _ ?_⟩
  clear hK K n0 n1
  have HB2 := Lib.hid (below_trans' x.below x.below.size hb2)
  have HO := Lib.hid (own_base hown x.below.size)
  rw [HS.out] at HO
  simp only [HS.out]
  clear hb2 hown
  iterate 7 (refine sched_quiet rfl (fun K hK => ?_); go_simp; first | (refine hK _ ?_; clear hK K) | (apply Exists.intro; refine ⟨fun _ => ?_, hK _ ?_⟩; (fail); clear hK K))
  refine sched_nil ?_
  rintro w3 ⟨y, rfl⟩
  have hb3 := Lib.hid (below_trans' HB2.out HB2.out.size y.below)
  have HO3 := Lib.hid (own_below HO.out y.below)
  have h3 := Lib.hid (h.below hb3.out)
  have er0 : (er != 0) = true := hz0.out
  have d1 : y.v.cell? ⟨g, 1, none⟩ = some (.int .i64 n.state) := h3.out.blk.cell 1
  have f3 := h3.out.blk.frozen 1
  go_wp2
  go_ret2
  exact ⟨rfl, h3.out, only_of_below hb3.out _⟩

end Go.Proofs.YthlfghheciamcaaDoor
