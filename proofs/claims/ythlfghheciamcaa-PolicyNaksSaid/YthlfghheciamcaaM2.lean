/-
  Arguments opened: a list of options.
  Conditions: none (at this program's types).
-/
import Derived.Test.YthlfghheciamcaaM
namespace Go.Proofs.Ythlfghheciamcaa
open Go.RowKit Go.Joins Go.ChangeShapes Go.WideShapes Go.Deep
open Go.ChangeMaps (open_string shut_string)
set_option linter.unusedVariables false

theorem weights_mem_all {H : Type} {P : Program} {e : TypeId} : ∀ {ds : List (DataW H)} {d : DataW H}, d ∈ ds → ∀ n ∈ d.weights P e, n ∈ DataW.weightsAll P e ds
  | d0 :: ds, d, hd, n, hn => by
    simp only [DataW.weightsAll, List.mem_append]
    rcases List.mem_cons.1 hd with rfl | h
    · exact .inl hn
    · exact .inr (weights_mem_all h n hn)
  | [], d, hd, _, _ => by cases hd

theorem cell_lt' {w : World} {a : Addr} {v : Value} (h : w.cell? a = some v) : a.block < w.heap.size := by
  rcases Nat.lt_or_ge a.block w.heap.size with h' | h'
  · exact h'
  · simp [World.cell?, Array.getElem?_eq_none h'] at h
theorem opts_list {w : World} {a : Addr} {Q : Nat → OptD → Prop} (len : Nat) (h : ∀ i, i < len → ∃ o : OptD, w.cell? (a.add (i * 2)) = some (.int .i64 o.kind) ∧ w.cell? (a.add (i * 2 + 1)) = some (.string o.data) ∧ Q i o) :
    ∀ n, n ≤ len → ∃ os : List OptD, os.length = n ∧ ∀ i o, os[i]? = some o → w.cell? (a.add (i * 2)) = some (.int .i64 o.kind) ∧ w.cell? (a.add (i * 2 + 1)) = some (.string o.data) ∧ Q i o
  | 0, _ => ⟨[], rfl, fun i o ho => by simp at ho⟩
  | n + 1, hn => by
    obtain ⟨os, hl, hos⟩ := opts_list len h n (by omega)
    obtain ⟨o, ho⟩ := h n (by omega)
    refine ⟨os ++ [o], by simp [hl], fun i o' ho' => ?_⟩
    by_cases hi : i < os.length
    · rw [List.getElem?_append_left hi] at ho'
      exact hos i o' ho'
    · rw [List.getElem?_append_right (by omega)] at ho'
      have : i - os.length = 0 := by
        rcases Nat.eq_zero_or_pos (i - os.length) with h0 | h0
        · exact h0
        · rw [List.getElem?_eq_none (by show 1 ≤ i - os.length; omega)] at ho'; cases ho'
      rw [this] at ho'
      simp only [List.getElem?_cons_zero, Option.some.injEq] at ho'
      subst ho'
      have hin : i = n := by omega
      subst hin
      exact ho

theorem optCells_cell (os : List OptD) (k : Nat) (u : Value) (h : (optCells os)[k]? = some u) : ∃ o, os[k / 2]? = some o ∧ (k = k / 2 * 2 ∧ u = .int .i64 o.kind ∨ k = k / 2 * 2 + 1 ∧ u = .string o.data) := by
  have hk : k < (optCells os).length := (List.getElem?_eq_some_iff.1 h).1
  rw [optCells_length] at hk
  have hi : k / 2 < os.length := by omega
  refine ⟨os[k / 2], List.getElem?_eq_getElem hi, ?_⟩
  rcases Nat.mod_two_eq_zero_or_one k with h0 | h0
  · left
    have e : k = k / 2 * 2 := by omega
    have := optCells_kind os (k / 2) hi
    rw [← e, h] at this
    exact ⟨e, by simpa using this⟩
  · right
    have e : k = k / 2 * 2 + 1 := by omega
    have := optCells_data os (k / 2) hi
    rw [← e, h] at this
    exact ⟨e, by simpa using this⟩

theorem open_opts {H : Type} {enc : TypeId × Value → H} {W : World} {base : Nat} {v : Value} {d : DataW H} {p : List MemPlace} (hv : Value.okWide Try.prog W .any base 25 v)
    (h : DataW.Trod enc Try.prog W 0 (fun _ => true) true 25 v d p) (hw : ∀ m ∈ d.weights Try.prog 25, m ≤ reachBytes) :
    ∃ (A : Option Addr) (n c : Nat) (os : List OptD), v = .slice A n c ∧ os.length = n ∧ n ≤ c ∧ n * 24 ≤ 140737488351232 ∧ Reads W W.heap.size 2 A n (optCells os) ∧ ∀ o ∈ os, o.data.size ≤ 140737488351232 := by
  obtain ⟨A0, n0, c0, rfl⟩ := okWide_slice Try.underlying25 hv
  obtain ⟨fuel, hf⟩ := h
  rcases open_slice_fields Try.underlying25 Try.underlying36 (by kernel_rfl) (by kernel_rfl) hf with ⟨hc, hx⟩ | ⟨a, len, cap, m, D, Pl, hcs, hb, hl, hm, hmm, hx, hi⟩
  · simp only [Value.cells, List.cons.injEq, and_true] at hc
    rw [hc]
    exact ⟨none, 0, 0, [], rfl, rfl, Nat.le_refl _, by omega, Reads.none_, fun o ho => by cases ho⟩
  · simp only [Value.cells, List.cons.injEq, and_true] at hcs
    rw [hcs]
    simp only [if_true] at hmm
    have hd : d = .slice ((List.range len).map D) ((List.range (m - len)).map fun j => D (len + j)) := congrArg Prod.fst hx
    subst hd
    have hbytes : Try.prog.bytesOf 36 = 24 := by kernel_rfl
    have hcount : (len + (m - len)) * 24 ≤ reachBytes := by
      have := hw ((len + (m - len)) * Try.prog.bytesOf 36) (by simp [DataW.weights, Try.underlying25])
      rwa [hbytes] at this
    have hel : ∀ i, i < len → ∀ n ∈ (D i).weights Try.prog 36, n ≤ reachBytes := by
      intro i hil n hn
      refine hw n ?_
      simp only [DataW.weights, Try.underlying25, List.mem_cons, List.mem_append]
      exact .inr (.inl (weights_mem_all (d := D i) (List.mem_map.2 ⟨i, List.mem_range.2 hil, rfl⟩) n hn))
    have hone : ∀ i, i < len → ∃ o : OptD, W.cell? (a.add (i * 2)) = some (.int .i64 o.kind) ∧ W.cell? (a.add (i * 2 + 1)) = some (.string o.data) ∧ o.data.size ≤ 140737488351232 := by
      intro i hil
      obtain ⟨ys, n, hDi, _, hyl, hf⟩ := hi i (by omega)
      obtain ⟨v0, y0, hc0, hy0, ht0⟩ := hf 0 _ rfl
      obtain ⟨v1, y1, hc1, hy1, ht1⟩ := hf 1 _ rfl
      obtain ⟨k, hk, _, _⟩ := DataW.trod_int Try.underlying3 ht0
      obtain ⟨s, hs, hx1, _⟩ := DataW.trod_string Try.underlying9 ht1
      simp only [List.cons.injEq, and_true] at hk hs
      subst hk hs
      refine ⟨⟨k, s⟩, hc0, hc1, ?_⟩
      have hy : ys = [y0, y1] := by
        match ys, hyl with
        | [q0, q1], _ => simp at hy0 hy1; rw [hy0, hy1]
      have hlen : s.data.toList.length ≤ reachBytes := by
        refine hel i hil _ ?_
        rw [hDi, hy, hx1]
        simp only [List.map_cons, List.map_nil, DataW.weights, Try.underlying36, DataW.weightsEach, List.mem_append, List.mem_cons, true_or, or_true]
      have e : s.data.toList.length = s.size := by rw [Array.length_toList]; rfl
      rw [e] at hlen
      exact hlen
    obtain ⟨os, hol, hos⟩ := opts_list (Q := fun _ o => o.data.size ≤ 140737488351232) len hone len (Nat.le_refl _)
    refine ⟨some a, len, cap, os, rfl, hol, hl, by have := hcount; simp only [reachBytes] at this; omega, ⟨by rw [optCells_length, hol], fun hpos => ⟨a, rfl, ?_, ?_⟩⟩, ?_⟩
    · obtain ⟨o, ho, _⟩ := hone 0 hpos
      have := cell_lt' ho
      simpa [block_of_add] using this
    · intro k u hu
      obtain ⟨o, ho, h⟩ := optCells_cell os k u hu
      obtain ⟨q0, q1, _⟩ := hos _ o ho
      rcases h with ⟨e, rfl⟩ | ⟨e, rfl⟩
      · rw [e]; exact q0
      · rw [e]; exact q1
    · intro o ho
      obtain ⟨i, hi⟩ := List.getElem?_of_mem ho
      exact (hos i o hi).2.2
end Go.Proofs.Ythlfghheciamcaa
