/-
  Plain facts on a side: its request is refused in part, acked.
  Conditions: none (plain lemmas).
-/
import Derived.Test.YthlfghheciamcaaDoorY1
namespace Go.Proofs.YthlfghheciamcaaDoor
open Go.RowKit
set_option linter.unusedVariables false

theorem clear_asks (l : LinkD) {k j : Int} (hk : k ∈ kindsL) (hj : j ∈ kindsL) : (l.clear k).asks j = (l.asks j && j != k) := by
  rcases in_kinds hk with rfl | rfl | rfl | rfl | rfl | rfl <;> rcases in_kinds hj with rfl | rfl | rfl | rfl | rfl | rfl <;> simp [LinkD.clear, LinkD.asks, LinkD.put, LinkD.field]
theorem clear_len {l : LinkD} (hl : l.may = true) {k : Int} (hk : k ∈ kindsL) (ha : l.asks k = true) (hm : (l.clear k).may = true) : (l.clear k).ask.length + 1 = l.ask.length := by
  have e : l.ask = l.askL kindsL := by simp [LinkD.ask, hl]
  have e' : (l.clear k).ask = (l.clear k).askL kindsL := by simp [LinkD.ask, hm]
  rw [e, e']
  simp only [LinkD.askL, List.length_map]
  have h1 : kindsL.filter (l.clear k).asks = (kindsL.filter l.asks).filter (fun j => j != k) := by
    rw [List.filter_filter]
    refine List.filter_congr fun j hj => ?_
    rw [clear_asks l hk hj, Bool.and_comm]
  rw [h1, ← List.Nodup.erase_eq_filter (List.Pairwise.filter _ kinds_nodup), List.length_erase_of_mem (List.mem_filter.2 ⟨hk, ha⟩)]
  have : 0 < (kindsL.filter l.asks).length := List.length_pos_of_mem (List.mem_filter.2 ⟨hk, ha⟩)
  omega
/-- one option of a request is refused: the link asks without it -/
theorem rej_one {l : LinkD} (hl : l.may = true) {o : OptD} (ho : o ∈ l.ask) : (learnD l 4 [o]).1 = l.clear o.kind ∧ (l.clear o.kind).may = true ∧ (l.clear o.kind).ask.length + 1 = l.ask.length := by
  have e : l.ask = l.askL kindsL := by simp [LinkD.ask, hl]
  obtain ⟨k, hk, ha, rfl⟩ := askL_kind l (fun k hk => hk) (by rw [← e]; exact ho)
  have hr := opt_right hl hk ha
  have hkd := opt_kind l hk
  have h1 : l.learn1 false (l.opt k) = l.clear (l.opt k).kind := learn1_rej hr (by rw [hkd]; exact ha)
  have h2 : (learnD l 4 [l.opt k]).1 = l.clear (l.opt k).kind := by
    have := learnD_yes false [l.opt k] hl
    rw [show (if (false : Bool) then (3 : Int) else 4) = 4 from rfl] at this
    rw [this]; exact h1
  have h3 : (l.clear (l.opt k).kind).may = true := by rw [← h1]; exact may_learn1 _ hl
  exact ⟨h2, h3, by rw [hkd] at h3 ⊢; exact clear_len hl hk ha h3⟩

theorem small_sub {os ps : List OptD} (h : SmallO os) (hp : ∀ o ∈ ps, o ∈ os) (hl : ps.length ≤ 6) : SmallO ps := ⟨fun o ho => h.kind o (hp o ho), fun o ho => h.data o (hp o ho), hl⟩

theorem take_rej6 {n : NegD} {os : List OptD} (h : SmallO os) (hs : n.state = 6) (ha : 0 ≤ n.asked) (ha2 : n.asked ≤ 255) :
    takeD n ⟨4, n.asked, os, emptyB⟩ = (scr { n with own := (learnD n.own 4 os).1, state := 6, left := n.tries }, [reqOf { n with own := (learnD n.own 4 os).1 }], 0) := by
  have hp := put_conf (c := 4) (i := n.asked) h (by omega) (by omega) ha ha2
  unfold takeD
  rw [if_neg (by rw [hp]; simp), if_neg (by omega), eventD_nak (r := repOf ⟨4, n.asked, os, emptyB⟩) (.inr rfl) rfl]
  simp only
  rw [if_pos trivial]
  exact (doD_of (n := { n with own := (learnD n.own 4 os).1 }) (ev := 9) (nx := 6) (acts := [5, 7]) (repOf ⟨4, n.asked, os, emptyB⟩) (show stepD n.state 9 = _ by rw [hs]; exact st_6_9)).trans rfl
theorem take_ack6 {n : NegD} (h : SmallO n.os) (hs : n.state = 6) (ha : 0 ≤ n.asked) (ha2 : n.asked ≤ 255) : takeD n ⟨2, n.asked, n.os, emptyB⟩ = ({ n with state := 7, left := n.tries }, [], 0) := by
  have hp := put_conf (c := 2) (i := n.asked) h (by omega) (by omega) ha ha2
  unfold takeD
  rw [if_neg (by rw [hp]; simp), if_neg (by omega), eventD_ack (r := repOf ⟨2, n.asked, n.os, emptyB⟩) rfl]
  simp only
  rw [if_pos (by simp [repOf])]
  exact (doD_of (n := n) (ev := 8) (nx := 7) (acts := [5]) (repOf ⟨2, n.asked, n.os, emptyB⟩) (show stepD n.state 8 = _ by rw [hs]; exact st_6_8)).trans rfl

/-- a slice of one option out of a row -/
theorem reads_one_of {w : World} {B n : Nat} {ad : Addr} {os : List OptD} (h : Reads w B 2 (some ad) n (optCells os)) (hn : os.length = n) (k : Nat) (hk : k < n) : Reads w B 2 (some (ad.add (k * 2))) 1 (optCells [os[k]'(by omega)]) := by
  refine ⟨by rw [optCells_length]; rfl, fun _ => ?_⟩
  obtain ⟨ad', hA, hb, hc⟩ := h.2 (by omega)
  injection hA with hA
  subst hA
  refine ⟨_, rfl, by rw [block_of_add]; exact hb, fun j u hu => ?_⟩
  rw [add_of_add]
  refine hc _ u ?_
  rw [optCells_one] at hu
  match j, hu with
  | 0, hu => simp only [List.getElem?_cons_zero, Option.some.injEq] at hu; subst hu; exact optCells_kind os k (by omega)
  | 1, hu => simp only [List.getElem?_cons_succ, List.getElem?_cons_zero, Option.some.injEq] at hu; subst hu; exact optCells_data os k (by omega)
  | j + 2, hu => simp at hu
end Go.Proofs.YthlfghheciamcaaDoor
