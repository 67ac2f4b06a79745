/-
  The plain laws of package policy, on: what is rejected among what a link asks by; what is there twice.
  Conditions: none (plain lemmas; no program's text in sight).
-/
import Derived.Test.YthlfghheciamcaaDoorT3
namespace Go.Proofs.YthlfghheciamcaaDoor
open Go.RowKit
set_option linter.unusedVariables false

/-- those that are rejected -/
def badsL (own : LinkD) : List OptD → List OptD → List OptD
  | pre, [] => []
  | pre, o :: os => if badB own pre o then o :: badsL own (pre ++ [o]) os else badsL own (pre ++ [o]) os
theorem judgeGo_bads (own : LinkD) : ∀ (os pre bad bet : List OptD), (∀ o ∈ os, fitB o = true) → ∃ bet', judgeGo own pre os bad bet = some (bad ++ badsL own pre os, bet')
  | [], pre, bad, bet, _ => ⟨bet, by simp [judgeGo, badsL]⟩
  | o :: os, pre, bad, bet, h => by
    rw [judgeGo, if_pos (h o (by simp)), badsL]
    cases badB own pre o with
    | true =>
      obtain ⟨b, hb⟩ := judgeGo_bads own os (pre ++ [o]) (bad ++ [o]) bet (fun x hx => h x (by simp [hx]))
      exact ⟨b, by simp only [if_true]; rw [hb, List.append_assoc]; rfl⟩
    | false =>
      simp only [Bool.false_eq_true, if_false]
      cases (betterD own o).2 with
      | true => exact judgeGo_bads own os (pre ++ [o]) bad _ (fun x hx => h x (by simp [hx]))
      | false => exact judgeGo_bads own os (pre ++ [o]) bad bet (fun x hx => h x (by simp [hx]))
theorem judgeD_bads {own : LinkD} {os : List OptD} (hm : own.may = true) (hf : ∀ o ∈ os, fitB o = true) (hb : badsL own [] os ≠ []) : judgeD own os = (2, badsL own [] os, 0) := by
  obtain ⟨b, h⟩ := judgeGo_bads own os [] [] [] hf
  unfold judgeD
  rw [hm, if_pos rfl, h]
  show (if (badsL own [] os).length = 0 then _ else _) = _
  rw [if_neg (by simpa using hb)]
  rfl
theorem badsL_append (own : LinkD) : ∀ (xs pre ys : List OptD), badsL own pre (xs ++ ys) = badsL own pre xs ++ badsL own (pre ++ xs) ys
  | [], pre, ys => by simp [badsL]
  | x :: xs, pre, ys => by
    rw [List.cons_append, badsL, badsL, badsL_append own xs (pre ++ [x]) ys]
    cases badB own pre x <;> simp
theorem badsL_none {own : LinkD} (hs : own.short = true) : ∀ (xs pre : List OptD), (∀ x ∈ xs, rightB x = true) → (xs.map OptD.kind).Nodup → (∀ p ∈ pre, ∀ x ∈ xs, p.kind ≠ x.kind) → badsL own pre xs = []
  | [], pre, _, _, _ => rfl
  | x :: xs, pre, hr, hn, hp => by
    have hn' := List.nodup_cons.1 hn
    have hb : badB own pre x = false := by
      unfold badB
      rw [hr x (by simp), hs, twice_none (fun p hp' => hp p hp' x (by simp))]
      simp
    rw [badsL, hb]
    simp only [Bool.false_eq_true, if_false]
    refine badsL_none hs xs _ (fun y hy => hr y (by simp [hy])) hn'.2 (fun p hp' y hy => ?_)
    rcases List.mem_append.1 hp' with h | h
    · exact hp p h y (by simp [hy])
    · have : p = x := by simpa using h
      rw [this]
      intro e
      exact hn'.1 (List.mem_map.2 ⟨y, hy, e.symm⟩)

theorem ask_right {l : LinkD} (hl : l.may = true) : ∀ o ∈ l.ask, rightB o = true := by
  intro o ho
  have e : l.ask = l.askL kindsL := by simp [LinkD.ask, hl]
  rw [e] at ho
  obtain ⟨k, hk, ha, rfl⟩ := askL_kind l (fun k h => h) ho
  exact opt_right hl hk ha
theorem ask_fit {l : LinkD} (hl : l.may = true) : ∀ o ∈ l.ask, fitB o = true := by
  intro o ho
  have e : l.ask = l.askL kindsL := by simp [LinkD.ask, hl]
  rw [e] at ho
  obtain ⟨k, hk, ha, rfl⟩ := askL_kind l (fun k h => h) ho
  exact opt_fit hl hk
theorem ask_kinds {l : LinkD} (hl : l.may = true) : l.ask.map OptD.kind = kindsL.filter l.asks := by
  have e : l.ask = l.askL kindsL := by simp [LinkD.ask, hl]
  rw [e]
  unfold LinkD.askL
  rw [List.map_map]
  refine (List.map_congr_left (g := id) fun k hk => ?_).trans (by simp)
  exact opt_kind l (List.mem_filter.1 hk).1
theorem ask_nodup {l : LinkD} (hl : l.may = true) : (l.ask.map OptD.kind).Nodup := by
  rw [ask_kinds hl]
  exact List.Pairwise.filter _ kinds_nodup
theorem ask_low {l : LinkD} (hl : l.may = true) : ∀ o ∈ l.ask, o.kind < 100 := by
  intro o ho
  have : o.kind ∈ l.ask.map OptD.kind := List.mem_map.2 ⟨o, ho, rfl⟩
  rw [ask_kinds hl] at this
  rcases in_kinds (List.mem_filter.1 this).1 with h | h | h | h | h | h <;> omega

def ownS : LinkD := ⟨0, 0, 0, true, ⟨#[]⟩, 0⟩
theorem wrong_high {k : Int} (h : 100 ≤ k) (d : ByteArray) : rightB ⟨k, d⟩ = false := by
  have : sizeK k = -2 := by unfold sizeK; repeat (rw [if_neg (by omega)])
  have h2 : ((-2 : Int) == (d.size : Int)) = false := by
    simp only [beq_eq_false_iff_ne]
    omega
  simp [rightB, this, h2]

theorem reject_one {l : LinkD} (hl : l.may = true) {k : Int} (hk : 100 ≤ k) (hk2 : k ≤ 163) (i : Nat) : judgeD ownS (l.ask.take i ++ [⟨k, ⟨#[122, 122]⟩⟩] ++ l.ask.drop i) = (2, [⟨k, ⟨#[122, 122]⟩⟩], 0) := by
  have hn := ask_nodup hl
  have hn2 : ((l.ask.take i).map OptD.kind ++ (l.ask.drop i).map OptD.kind).Nodup := by rw [← List.map_append, List.take_append_drop]; exact hn
  have hsp := List.nodup_append.1 hn2
  have hb : badsL ownS [] (l.ask.take i ++ [⟨k, ⟨#[122, 122]⟩⟩] ++ l.ask.drop i) = [⟨k, ⟨#[122, 122]⟩⟩] := by
    rw [badsL_append, badsL_append, badsL_none rfl _ _ (fun x hx => ask_right hl x (List.mem_of_mem_take hx)) hsp.1 (fun p hp => by cases hp)]
    rw [badsL_none rfl (l.ask.drop i) _ (fun x hx => ask_right hl x (List.mem_of_mem_drop hx)) hsp.2.1 (fun p hp x hx => ?_)]
    · have hb : badB ownS ([] ++ l.ask.take i) ⟨k, ⟨#[122, 122]⟩⟩ = true := by unfold badB; rw [wrong_high hk]; rfl
      simp only [badsL, hb]
      simp
    · rw [List.nil_append] at hp
      rcases List.mem_append.1 hp with h | h
      · exact hsp.2.2 _ (List.mem_map.2 ⟨p, h, rfl⟩) _ (List.mem_map.2 ⟨x, hx, rfl⟩)
      · have : p = ⟨k, ⟨#[122, 122]⟩⟩ := by simpa using h
        rw [this]
        have := ask_low hl x (List.mem_of_mem_drop hx)
        show k ≠ x.kind
        omega
  have := judgeD_bads (own := ownS) (os := l.ask.take i ++ [⟨k, ⟨#[122, 122]⟩⟩] ++ l.ask.drop i) rfl ?_ (by rw [hb]; simp)
  · rw [this, hb]
  · intro o ho
    rcases List.mem_append.1 ho with h | h
    · rcases List.mem_append.1 h with h | h
      · exact ask_fit hl o (List.mem_of_mem_take h)
      · have : o = ⟨k, ⟨#[122, 122]⟩⟩ := by simpa using h
        subst this
        simp [fitB, ByteArray.size]; omega
    · exact ask_fit hl o (List.mem_of_mem_drop h)

theorem twice_hit {pre : List OptD} {o : OptD} (h : o ∈ pre) : twiceB pre o = true := by
  unfold twiceB
  exact List.any_eq_true.2 ⟨o, h, by simp⟩
theorem reject_twice {l : LinkD} (hl : l.may = true) {o : OptD} (ho : o ∈ l.ask) : judgeD ownS (l.ask ++ [o]) = (2, [o], 0) := by
  have hb : badsL ownS [] (l.ask ++ [o]) = [o] := by
    rw [badsL_append, badsL_none rfl _ _ (ask_right hl) (ask_nodup hl) (fun p hp => by cases hp)]
    have hb : badB ownS ([] ++ l.ask) o = true := by unfold badB; rw [List.nil_append, twice_hit ho]; simp
    simp only [badsL, hb]
    simp
  have := judgeD_bads (own := ownS) (os := l.ask ++ [o]) rfl ?_ (by rw [hb]; simp)
  · rw [this, hb]
  · intro x hx
    rcases List.mem_append.1 hx with h | h
    · exact ask_fit hl x h
    · have : x = o := by simpa using h
      subst this
      exact ask_fit hl x ho
theorem takenGo_none {o : OptD} : ∀ (xs : List OptD) (l : LinkD) (pre : List OptD), twiceB (pre ++ xs) o = true → takenGo l pre (xs ++ [o]) = none
  | [], l, pre, h => by
    rw [List.append_nil] at h
    rw [List.nil_append, takenGo, h]
    simp
  | x :: xs, l, pre, h => by
    rw [List.cons_append, takenGo]
    split
    · exact takenGo_none xs _ _ (by rw [List.append_assoc]; exact h)
    · rfl
theorem taken_twice {l : LinkD} {o : OptD} (ho : o ∈ l.ask) : takenD (l.ask ++ [o]) = (zeroL, 1400) := by
  unfold takenD
  rw [takenGo_none l.ask zeroL [] (twice_hit (by simpa using ho))]
end Go.Proofs.YthlfghheciamcaaDoor
