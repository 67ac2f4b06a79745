/-
  A reply in memory; what an action sends; contracts of send, action by action.
  Conditions: as each states.
-/
import Derived.Test.YthlfghheciamcaaDoorG4
namespace Go.Proofs.YthlfghheciamcaaDoor
open Go.RowKit
set_option linter.unusedVariables false

structure RepD where
  p : PackD
  event : Int
  verdict : Int
  os : List OptD

structure RepFit (r : RepD) : Prop where
  pl : r.p.opts.length ≤ 2048
  ol : r.os.length ≤ 2048
  pd : ∀ o ∈ r.p.opts, o.data.size ≤ 140737488351232
  od : ∀ o ∈ r.os, o.data.size ≤ 140737488351232
  dd : r.p.data.size ≤ 140737488351232

def RepD.cells (r : RepD) (pv ov : Value) : Array Value := #[.int .i64 r.p.code, .int .i64 r.p.id, pv, .string r.p.data, .int .i64 r.event, .int .i64 r.verdict, ov]
structure RepAt (w : World) (b : Nat) (pv ov : Value) (r : RepD) : Prop where
  blk : Blk w b 62 (r.cells pv ov)
  prow : w.ownsRow 0 79 2 pv r.p.opts.length (optCells r.p.opts)
  orow : w.ownsRow 0 79 2 ov r.os.length (optCells r.os)
  fit : RepFit r
theorem RepAt.below {w w' : World} {b : Nat} {pv ov : Value} {r : RepD} (h : RepAt w b pv ov r) (hb : Below w.heap.size w w') : RepAt w' b pv ov r :=
  ⟨h.blk.below hb h.blk.lt, own_below h.prow hb, own_below h.orow hb, h.fit⟩
theorem RepAt.alloc {w : World} {b : Nat} {pv ov : Value} {r : RepD} (h : RepAt w b pv ov r) (o : Obj) : RepAt (w.alloc o) b pv ov r :=
  ⟨h.blk.alloc o, h.prow.alloc o, h.orow.alloc o, h.fit⟩
theorem RepAt.drewN {w : World} {b : Nat} {pv ov : Value} {r : RepD} (h : RepAt w b pv ov r) (k : Nat) : RepAt (w.drewN k) b pv ov r := ⟨h.blk, h.prow, h.orow, h.fit⟩
/-- a block of another type has turned -/
theorem RepAt.beside {w w' : World} {b k : Nat} {pv ov : Value} {r : RepD} {T : TypeId} {cs : Array Value} (h : RepAt w b pv ov r) (hb : w.grownBy w' (some k)) (hk : Blk w k T cs) (ht : T ≠ 62) (hv : T ≠ 79) : RepAt w' b pv ov r :=
  ⟨h.blk.grown hb (by simpa using fun e => (hk.ne_ h.blk ht) e.symm), h.prow.kept hb (.inr (own_blk_ne h.prow hk (fun e => hv e.symm))), h.orow.kept hb (.inr (own_blk_ne h.orow hk (fun e => hv e.symm))), h.fit⟩
theorem RepAt.neg {w w' : World} {b g t : Nat} {pv ov v v' : Value} {r : RepD} {n n' : NegD} (h : RepAt w b pv ov r) (hn : NegAt w g t v n) (hb : NegTo w w' g t v' n') : RepAt w' b pv ov r :=
  h.beside hb.grown hn.blk (by decide) (by decide)

def emptyB : ByteArray := ⟨#[]⟩
def noPack : PackD := ⟨0, 0, [], emptyB⟩
/-- what an action sends; false: nothing -/
def sendD (n : NegD) (act : Int) (r : RepD) : NegD × PackD × Bool :=
  if act = 7 then ({ n with left := max 0 (n.left - 1), id := nextI n.id, asked := nextI n.id, os := n.own.ask }, ⟨1, nextI n.id, n.own.ask, emptyB⟩, true)
  else if act = 10 then ({ n with left := max 0 (n.left - 1), id := nextI n.id }, ⟨5, nextI n.id, [], emptyB⟩, true)
  else if act = 8 then ({ n with other := (takenD r.os).1 }, ⟨2, r.p.id, r.os, emptyB⟩, true)
  else if act = 9 then (n, ⟨if r.verdict = 2 then 4 else 3, r.p.id, r.os, emptyB⟩, true)
  else if act = 11 then (n, ⟨6, if r.event = 10 then r.p.id else 0, [], emptyB⟩, true)
  else if act = 12 then ({ n with id := nextI n.id }, ⟨7, nextI n.id, [], ⟨((controlPut r.p).1.take 64).toArray⟩⟩, true)
  else if act = 13 then (n, ⟨10, r.p.id, [], r.p.data⟩, r.p.code == 9)
  else (n, noPack, false)

structure Sent (w w' : World) (g t : Nat) (v v' : Value) (n' : NegD) (p : PackD) (u : Value) : Prop where
  neg : NegTo w w' g t v' n'
  row : w'.ownsRow w.heap.size 79 2 u p.opts.length (optCells p.opts)
  apart : Apart u v'
  os : v' = v ∨ ∀ k, v'.ownBlock = some k → w.heap.size ≤ k

def packV (p : PackD) (u : Value) : Value := .agg #[.int .i64 p.code, .int .i64 p.id, u, .string p.data]

/-- what lies below the row's base is another block -/
theorem apart_old {w w' : World} {base base' n n' : Nat} {e e' : TypeId} {size size' : Nat} {u v : Value} {xs xs' : List Value} (hu : w'.ownsRow base e size u n xs) (hv : w.ownsRow base' e' size' v n' xs') (hb : w.heap.size ≤ base) : Apart u v := by
  intro k hk hvk
  have h1 := (hu.lt k hk).1
  have h2 := (hv.lt k hvk).2
  omega
theorem apart_nil (v : Value) (c : Nat) : Apart (.slice none 0 c) v := fun k hk => by simp [Value.ownBlock] at hk

theorem set_four {w : World} {b : Nat} {T : TypeId} {x0 x1 x2 x3 : Value} (h : Blk w b T #[x0, x1, x2, x3]) (a0 a1 a2 a3 : Value) :
    Blk ((((w.setCell ⟨b, 0, none⟩ a0).setCell ⟨b, 1, none⟩ a1).setCell ⟨b, 2, none⟩ a2).setCell ⟨b, 3, none⟩ a3) b T #[a0, a1, a2, a3] ∧
      w.grownBy ((((w.setCell ⟨b, 0, none⟩ a0).setCell ⟨b, 1, none⟩ a1).setCell ⟨b, 2, none⟩ a2).setCell ⟨b, 3, none⟩ a3) (some b) :=
  ⟨(((h.set_ 0 a0).set_ 1 a1).set_ 2 a2).set_ 3 a3, only_setCell (only_setCell (only_setCell (only_setCell (World.grownBy.refl w _) (p := ⟨b, 0, none⟩) (.inl rfl) a0) (p := ⟨b, 1, none⟩) (.inl rfl) a1) (p := ⟨b, 2, none⟩) (.inl rfl) a2) (p := ⟨b, 3, none⟩) (.inl rfl) a3⟩
/-- a new block alone has turned -/
theorem below_of_only {w w1 w2 : World} {b : Nat} (h : w1.grownBy w2 (some b)) (hb : Below w.heap.size w w1) (hn : w.heap.size ≤ b) : Below w.heap.size w w2 := hb.grown h hb.size (fun k hk => by injection hk with hk; omega)
/-- a side's own block and a new block have turned -/
theorem only_new {w w1 w2 : World} {g b : Nat} (h : w.grownBy w1 (some g)) (k : w1.grownBy w2 (some b)) (hn : w.heap.size ≤ b) : w.grownBy w2 (some g) :=
  ⟨k.os.trans h.os, k.tape.trans h.tape, k.output.trans h.output, Nat.le_trans h.size k.size, fun i hi hne => (k.block i (Nat.lt_of_lt_of_le hi h.size) (by simp; omega)).trans (h.block i hi hne)⟩
/-- a side behind a turn of a new block that is no options' row -/
theorem NegTo.fresh {w w1 w2 : World} {g t b : Nat} {v : Value} {n : NegD} {T : TypeId} {cs : Array Value} (h : NegTo w w1 g t v n) (k : w1.grownBy w2 (some b)) (hk : Blk w1 b T cs) (hg : g < w.heap.size) (hn : w.heap.size ≤ b) (ht : T ≠ 71) (hv : T ≠ 79) : NegTo w w2 g t v n :=
  ⟨h.at_.beside k hk (by omega) ht hv, only_new h.grown k hn⟩

theorem NegTo.from_alloc {w w1 : World} {g t : Nat} {v : Value} {n : NegD} {o : Obj} (h : NegTo (w.alloc o) w1 g t v n) : NegTo w w1 g t v n := ⟨h.at_, grown_from_alloc h.grown⟩

set_option maxRecDepth 100000 in
set_option maxHeartbeats 2000000 in
theorem send_none (g t rb : Nat) (v pv ov : Value) (n : NegD) (act : Int) (r : RepD) (w : World) (h : NegAt w g t v n) (ha : act ≤ 6) :
    Calls Tryd.prog 34 #[.pointer (some ⟨g, 0, none⟩), .int .i64 act, .pointer (some ⟨rb, 0, none⟩)] w fun e w' =>
      ∃ u v', e = .returned (.tuple #[packV (sendD n act r).2.1 u, .bool (sendD n act r).2.2]) ∧ Sent w w' g t v v' (sendD n act r).1 (sendD n act r).2.1 u := by
  have HS := Lib.hid (show sendD n act r = (n, noPack, false) by
    unfold sendD; rw [if_neg (by omega), if_neg (by omega), if_neg (by omega), if_neg (by omega), if_neg (by omega), if_neg (by omega), if_neg (by omega)])
  rw [HS.out]
  have e7 : (act == 7) = false := beq_eq_false_iff_ne.2 (by omega)
  have e8 : (act == 8) = false := beq_eq_false_iff_ne.2 (by omega)
  have e9 : (act == 9) = false := beq_eq_false_iff_ne.2 (by omega)
  have e10 : (act == 10) = false := beq_eq_false_iff_ne.2 (by omega)
  have e11 : (act == 11) = false := beq_eq_false_iff_ne.2 (by omega)
  have e12 : (act == 12) = false := beq_eq_false_iff_ne.2 (by omega)
  have e13 : (act == 13) = false := beq_eq_false_iff_ne.2 (by omega)
  have H := Lib.hid h
  clear h
  go_enter Tryd.func34, Tryd.ntmps34
  go_wp2_with fail
  refine bodyPost_ret (v := .tuple #[.agg #[.int .i64 0, .int .i64 0, .slice none 0 0, .string ⟨#[]⟩], .bool false]) (by simp [results, Tryd.results34, go_sem]) rfl ⟨.slice none 0 0, v, rfl, ⟨H.out.alloc _, only_alloc (World.grownBy.refl _ _) _⟩, World.ownsRow_nil _ _ _ _, apart_nil _ _, .inl rfl⟩

set_option maxRecDepth 100000 in
set_option maxHeartbeats 2000000 in
theorem send_scr (g t rb : Nat) (v pv ov : Value) (n : NegD) (r : RepD) (w : World) (h : NegAt w g t v n) :
    Calls Tryd.prog 34 #[.pointer (some ⟨g, 0, none⟩), .int .i64 7, .pointer (some ⟨rb, 0, none⟩)] w fun e w' =>
      ∃ u v', e = .returned (.tuple #[packV ⟨1, nextI n.id, n.own.ask, emptyB⟩ u, .bool true]) ∧ Sent w w' g t v v' { n with left := max 0 (n.left - 1), id := nextI n.id, asked := nextI n.id, os := n.own.ask } ⟨1, nextI n.id, n.own.ask, emptyB⟩ u := by
  have H := Lib.hid h
  clear h
  go_enter Tryd.func34, Tryd.ntmps34
  go_wp2_with fail
  refine (count_any g t v n _ (H.out.alloc _)).mono ?_
  rintro e w2 ⟨rfl, h2⟩
  have hk2 := Blk.grown (Blk.new w 41 #[.int .i64 0, .int .i64 0, .slice none 0 0, .string ⟨#[]⟩]) h2.grown (by simpa using fun e : w.heap.size = g => absurd H.out.lt (by omega))
  have HK2 := Lib.hid hk2
  have H2 := Lib.hid h2
  clear h2 hk2
  go_wp2_with fail
  refine (next_any g t v _ _ H2.out.at_).mono ?_
  rintro e w3 ⟨rfl, h3⟩
  have HK3 := Lib.hid (HK2.out.grown h3.grown (by simpa using fun e : w.heap.size = g => absurd H.out.lt (by omega)))
  have H3 := Lib.hid (H2.out.trans h3)
  clear h3
  have c4 : w3.cell? ⟨g, 4, none⟩ = some (.int .i64 n.own.mru) := H3.out.at_.blk.cell 4
  have c5 : w3.cell? ⟨g, 5, none⟩ = some (.int .i64 n.own.magic) := H3.out.at_.blk.cell 5
  have c6 : w3.cell? ⟨g, 6, none⟩ = some (.int .i64 n.own.mrru) := H3.out.at_.blk.cell 6
  have c7 : w3.cell? ⟨g, 7, none⟩ = some (.bool n.own.short) := H3.out.at_.blk.cell 7
  have c8 : w3.cell? ⟨g, 8, none⟩ = some (.string n.own.disc) := H3.out.at_.blk.cell 8
  have c9 : w3.cell? ⟨g, 9, none⟩ = some (.int .i64 n.own.num) := H3.out.at_.blk.cell 9
  have c17 : w3.cell? ⟨g, 17, none⟩ = some (.int .i64 n.asked) := H3.out.at_.blk.cell 17
  have f17 := H3.out.at_.blk.frozen 17
  have i0 := H.out.fit.i0
  have i1 := H.out.fit.i1
  have h4 := H3.out.at_.put 17 (.int .i64 (nextI n.id)) (n' := { n with left := max 0 (n.left - 1), id := nextI n.id, asked := nextI n.id }) rfl rfl { H3.out.at_.fit with a0 := by show -1 ≤ (n.id + 1) % 256; omega, a1 := by show (n.id + 1) % 256 < 256; omega }
  have H4 := Lib.hid (H3.out.trans h4)
  have HK4 := Lib.hid (HK3.out.grown h4.grown (by simpa using fun e : w.heap.size = g => absurd H.out.lt (by omega)))
  clear h4
  go_wp2_with (fail)
  refine (ask_any n.own _).mono ?_
  rintro e w5 ⟨v', rfl, hask⟩
  generalize (if n.own.may = true then (0 : Int) else 1400) = er
  have d18 : w5.cell? ⟨g, 18, none⟩ = some v := (H4.out.at_.below hask.below).blk.cell 18
  have f18 := (H4.out.at_.below hask.below).blk.frozen 18
  have hlen : n.own.ask.length ≤ 6 := by
    unfold LinkD.ask; split
    · exact askL_le n.own kindsL
    · simp
  have h6 := (H4.out.at_.below hask.below).putOs (n' := { n with left := max 0 (n.left - 1), id := nextI n.id, asked := nextI n.id, os := n.own.ask }) rfl rfl (own_base hask.own (Nat.zero_le _)) { H4.out.at_.fit with os := hlen }
  have hz5 : w.heap.size < w5.heap.size := Nat.lt_of_lt_of_le HK4.out.lt hask.below.size
  have HK6 := Lib.hid ((Blk.below HK4.out hask.below HK4.out.lt).grown h6.grown (by simpa using fun e : w.heap.size = g => absurd H.out.lt (by omega)))
  have H6 := Lib.hid ((H4.out.below hask.below).trans h6)
  have HV := Lib.hid (show ∀ k, v'.ownBlock = some k → w.heap.size ≤ k from fun k hk => Nat.le_trans (Nat.le_trans (by simp) H4.out.grown.size) (hask.own.lt k hk).1)
  obtain ⟨A', c', rfl, hnc, _, _⟩ := own_shape hask.own
  clear h6 hask
  go_wp2_with fail
  clear d18 f18 c4 c5 c6 c7 c8 c9 c17 f17
  generalize w5.setCell ⟨g, 18, none⟩ (.slice A' n.own.ask.length c') = W6 at *
  have hgb : ¬ g = w.heap.size := fun e => absurd H.out.lt (by omega)
  have q17 := Turned.cell (g := w.heap.size) (show W6.cell? ⟨g, 17, none⟩ = some (.int .i64 (nextI n.id)) from H6.out.at_.blk.cell 17) hgb
  have q18 := Turned.cell (g := w.heap.size) (show W6.cell? ⟨g, 18, none⟩ = some (.slice A' n.own.ask.length c') from H6.out.at_.blk.cell 18) hgb
  refine wp_region_sched [(0, false), (1, false), (2, false), (3, false), (4, false), (5, false), (6, false), (7, false), (8, true), (9, false), (10, true), (11, false)] (Turned.v (w := W6) (g := w.heap.size)) (nearC W6) (okay_turned (World.grownBy.refl _ _)) (by kernel_rfl) rfl (by kernel_rfl) (by kernel_rfl) ⟨⟨_, (Below.refl _ _).drew⟩, rfl⟩ ?_
  iterate 8 (refine sched_quiet rfl (fun K hK => ?_); go_simp; first | (refine hK _ ?_; clear hK K) | (apply Exists.intro; refine ⟨fun _ => ?_, hK _ ?_⟩; (fail); clear hK K))
  refine sched_eff rfl rfl (fun K hK w7 hw7 => ?_)
  go_simp
  obtain ⟨x, rfl⟩ := hw7
  clear q17 q18
  have hx := H6.out.at_.below x.below
  refine (clone_any n.own.ask A' n.own.ask.length c' x.v (Reads.of_own hx.row) rfl (by omega)).mono ?_
  rintro e w8 ⟨u, rfl, hown, hb8⟩
  have hb68 := below_trans' x.below x.below.size hb8
  obtain ⟨Au, cu, rfl, hcu, _, _⟩ := own_shape hown
  refine ⟨_, rfl, nearC w8, okay_turned (only_of_below hb68 _), nearC_self _, hK _ _ ?_⟩
  clear hK K
  iterate 1 (refine sched_quiet rfl (fun K hK => ?_); go_simp; first | (refine hK _ ?_; clear hK K) | (apply Exists.intro; refine ⟨fun _ => ?_, hK _ ?_⟩; (fail); clear hK K))
  refine sched_eff rfl rfl (fun K hK w9 hw9 => ?_)
  obtain ⟨y, rfl⟩ := hw9
  have hk9 := Blk.below (Blk.below HK6.out hb68 HK6.out.lt) y.below (Nat.lt_of_lt_of_le HK6.out.lt hb68.size)
  have k0 : y.v.cell? ⟨w.heap.size, 0, none⟩ = some (.int .i64 0) := hk9.cell 0
  have k1 : y.v.cell? ⟨w.heap.size, 1, none⟩ = some (.int .i64 0) := hk9.cell 1
  have k2 : y.v.cell? ⟨w.heap.size, 2, none⟩ = some (.slice none 0 0) := hk9.cell 2
  have k3 : y.v.cell? ⟨w.heap.size, 3, none⟩ = some (.string ⟨#[]⟩) := hk9.cell 3
  have kf := hk9.frozen
  go_simp
  obtain ⟨hs9, hs9'⟩ := set_four hk9 (.int .i64 1) (.int .i64 (nextI n.id)) (.slice Au n.own.ask.length cu) (.string ⟨#[]⟩)
  have hby := below_trans' hb68 hb68.size y.below
  have hn9 := (H6.out.from_alloc.below hby).fresh hs9' hk9 H.out.lt (Nat.le_refl _) (by decide) (by decide)
  have ho9 := own_grown' (own_below hown y.below) hs9' (own_blk_ne (own_below hown y.below) hk9 (by decide))
  refine ⟨nearC _, okay_turned (grown_row (only_of_below hby _) hs9'), nearC_self _, hK _ _ ?_⟩
  clear hK K
  iterate 1 (refine sched_quiet rfl (fun K hK => ?_); go_simp; first | (refine hK _ ?_; clear hK K) | (apply Exists.intro; refine ⟨fun _ => ?_, hK _ ?_⟩; (fail); clear hK K))
  refine sched_nil ?_
  rintro w10 ⟨z, rfl⟩
  have hkz := Blk.below hs9 z.below hs9.lt
  have z0 : z.v.cell? ⟨w.heap.size, 0, none⟩ = some (.int .i64 1) := hkz.cell 0
  have z1 : z.v.cell? ⟨w.heap.size, 1, none⟩ = some (.int .i64 (nextI n.id)) := hkz.cell 1
  have z2 : z.v.cell? ⟨w.heap.size, 2, none⟩ = some (.slice Au n.own.ask.length cu) := hkz.cell 2
  have z3 : z.v.cell? ⟨w.heap.size, 3, none⟩ = some (.string ⟨#[]⟩) := hkz.cell 3
  clear k0 k1 k2 k3 kf hk9 hs9 hkz
  go_wp2_with fail
  refine bodyPost_ret (v := .tuple #[packV ⟨1, nextI n.id, n.own.ask, emptyB⟩ (.slice Au n.own.ask.length cu), .bool true]) (by simp [results, Tryd.results34, go_sem, packV, emptyB, z0, z1, z2, z3]) rfl
    ⟨.slice Au n.own.ask.length cu, .slice A' n.own.ask.length c', rfl, hn9.below z.below, own_base (own_below ho9 z.below) (Nat.le_trans H6.out.from_alloc.grown.size x.below.size), apart_old hown hx.row (Nat.le_refl _), .inr HV.out⟩
end Go.Proofs.YthlfghheciamcaaDoor
