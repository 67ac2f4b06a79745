/-
  The plain laws of package policy, on: how what a link asks by is judged; what is learned of it.
  Conditions: none (plain lemmas; no program's text in sight).
-/
import Derived.Test.YthlfghheciamcaaDoorT
namespace Go.Proofs.YthlfghheciamcaaDoor
open Go.RowKit
set_option linter.unusedVariables false

theorem askL_filter (l : LinkD) (ks : List Int) (p : OptD → Bool) : (l.askL ks).filter p = (ks.filter fun k => l.asks k && p (l.opt k)).map l.opt := by
  unfold LinkD.askL
  rw [List.filter_map, List.filter_filter]
  congr 1
  exact List.filter_congr fun k _ => by simp [Bool.and_comm]

/-- the number that a magic is naked with -/
def otherMagic (own : LinkD) : Int := if 1 < 4294967295 - own.magic then 4294967295 - own.magic else 1
def magicB (own l : LinkD) : Bool := l.magic != 0 && l.magic == own.magic

theorem bad_ask (own l : LinkD) : (l.askL kindsL).filter (shortBad own) = if l.short && !own.short then [⟨18, ⟨#[]⟩⟩] else [] := by
  rw [askL_filter]
  have e : (kindsL.filter fun k => l.asks k && shortBad own (l.opt k)) = if l.short && !own.short then [18] else [] := by
    have h1 : (l.asks 1 && shortBad own (l.opt 1)) = false := by rw [show shortBad own (l.opt 1) = false from rfl, Bool.and_false]
    have h5 : (l.asks 5 && shortBad own (l.opt 5)) = false := by rw [show shortBad own (l.opt 5) = false from rfl, Bool.and_false]
    have h17 : (l.asks 17 && shortBad own (l.opt 17)) = false := by rw [show shortBad own (l.opt 17) = false from rfl, Bool.and_false]
    have h18 : (l.asks 18 && shortBad own (l.opt 18)) = (l.short && !own.short) := rfl
    have h19 : (l.asks 19 && shortBad own (l.opt 19)) = false := by rw [show shortBad own (l.opt 19) = false from rfl, Bool.and_false]
    have h23 : (l.asks 23 && shortBad own (l.opt 23)) = false := by rw [show shortBad own (l.opt 23) = false from rfl, Bool.and_false]
    simp only [kindsL, List.filter_cons, List.filter_nil, h1, h5, h17, h18, h19, h23]
    cases (l.short && !own.short) <;> rfl
  rw [e]
  cases (l.short && !own.short) <;> rfl

theorem better_ask {own l : LinkD} (hl : l.may = true) : ((l.askL kindsL).filter fun o => (betterD own o).2) = if magicB own l then [l.opt 5] else [] := by
  rw [askL_filter]
  have hm := (may_iff l).1 hl
  have e : (kindsL.filter fun k => l.asks k && (betterD own (l.opt k)).2) = if magicB own l then [5] else [] := by
    have h1 : (l.asks 1 && (betterD own (l.opt 1)).2) = false := by
      have : (betterD own (l.opt 1)).2 = !unitB (valB (numB l.mru 2)) := rfl
      rw [this, val_two' _ (by have := hm.mru; omega) (by have := hm.mru; omega), show l.asks 1 = (l.mru != 0) from rfl]
      have := hm.mru
      by_cases h : l.mru = 0
      · simp [h]
      · simp [unitB]; omega
    have h5 : (l.asks 5 && (betterD own (l.opt 5)).2) = magicB own l := by
      have : (betterD own (l.opt 5)).2 = (valB (numB l.magic 4) == 0 || valB (numB l.magic 4) == own.magic) := rfl
      rw [this, val_four' _ (by have := hm.magic; omega) (by have := hm.magic; omega), show l.asks 5 = (l.magic != 0) from rfl]
      unfold magicB
      by_cases h : l.magic = 0
      · simp [h]
      · have h0 : (l.magic == 0) = false := by simpa using h
        rw [h0, Bool.false_or]
    have h17 : (l.asks 17 && (betterD own (l.opt 17)).2) = false := by
      have : (betterD own (l.opt 17)).2 = !unitB (valB (numB l.mrru 2)) := rfl
      rw [this, val_two' _ (by have := hm.mrru; omega) (by have := hm.mrru; omega), show l.asks 17 = (l.mrru != 0) from rfl]
      have := hm.mrru
      by_cases h : l.mrru = 0
      · simp [h]
      · simp [unitB]; omega
    have h18 : (l.asks 18 && (betterD own (l.opt 18)).2) = false := by rw [show (betterD own (l.opt 18)).2 = false from rfl, Bool.and_false]
    have h19 : (l.asks 19 && (betterD own (l.opt 19)).2) = false := by rw [show (betterD own (l.opt 19)).2 = false from rfl, Bool.and_false]
    have h23 : (l.asks 23 && (betterD own (l.opt 23)).2) = false := by rw [show (betterD own (l.opt 23)).2 = false from rfl, Bool.and_false]
    simp only [kindsL, List.filter_cons, List.filter_nil, h1, h5, h17, h18, h19, h23]
    cases magicB own l <;> rfl
  rw [e]
  cases magicB own l <;> rfl

theorem better_5 (own l : LinkD) : (betterD own (l.opt 5)).1 = ⟨5, numB (otherMagic own) 4⟩ := rfl

theorem judge_ask {own l : LinkD} (ho : own.may = true) (hl : l.may = true) : judgeD own l.ask =
    if l.short && !own.short then (2, [⟨18, ⟨#[]⟩⟩], 0) else if magicB own l then (1, [⟨5, numB (otherMagic own) 4⟩], 0) else (0, l.ask, 0) := by
  have e : l.ask = l.askL kindsL := by simp [LinkD.ask, hl]
  unfold judgeD
  rw [ho, if_pos rfl]
  have hj := judgeGo_all (own := own) hl kindsL [] [] [] (fun k h => h) kinds_nodup (by simp)
  rw [List.nil_append, List.nil_append, bad_ask] at hj
  rw [e, hj]
  cases hs : (l.short && !own.short) with
  | true => rfl
  | false =>
    have hf : ((l.askL kindsL).filter fun o => !shortBad own o) = l.askL kindsL := by
      have hb := bad_ask own l
      rw [hs] at hb
      refine List.filter_eq_self.2 fun o ho => ?_
      cases h : shortBad own o with
      | false => rfl
      | true =>
        have : o ∈ (l.askL kindsL).filter (shortBad own) := List.mem_filter.2 ⟨ho, h⟩
        rw [hb] at this
        cases this
    simp only [hf, better_ask hl]
    cases hm : magicB own l with
    | true => rfl
    | false => rfl

theorem otherMagic_range {own : LinkD} (h : own.may = true) : 1 ≤ otherMagic own ∧ otherMagic own ≤ 4294967295 := by
  have hm := ((may_iff own).1 h).magic
  unfold otherMagic
  split <;> omega
theorem otherMagic_ne {own : LinkD} (h : own.may = true) : otherMagic own ≠ own.magic := by
  have hm := ((may_iff own).1 h).magic
  unfold otherMagic
  split <;> omega

/-- what is learned of a short that was rejected -/
theorem learn_short {l : LinkD} (hl : l.may = true) (hs : l.short = true) : learnD l 4 [⟨18, ⟨#[]⟩⟩] = ({ l with short := false }, 0) := by
  unfold learnD
  rw [hl]
  have : l.learnAll ((4 : Int) == 3) [⟨18, ⟨#[]⟩⟩] = { l with short := false } := by
    show l.learn1 false ⟨18, ⟨#[]⟩⟩ = _
    have ha : l.asks 18 = true := hs
    unfold LinkD.learn1
    rw [show rightB ⟨18, ⟨#[]⟩⟩ = true from rfl, ha]
    rfl
  rw [this]
  rfl
/-- what is learned of a magic that was naked -/
theorem learn_magic {own l : LinkD} (ho : own.may = true) (hl : l.may = true) (hm : magicB own l = true) : learnD l 3 [⟨5, numB (otherMagic own) 4⟩] = ({ l with magic := otherMagic own }, 0) := by
  unfold learnD
  rw [hl]
  have hr := otherMagic_range ho
  have hv := val_four' (otherMagic own) (by omega) (by omega)
  have : l.learnAll ((3 : Int) == 3) [⟨5, numB (otherMagic own) 4⟩] = { l with magic := otherMagic own } := by
    show l.learn1 true ⟨5, numB (otherMagic own) 4⟩ = _
    have ha : l.asks 5 = true := (Bool.and_eq_true_iff.1 hm).1
    unfold LinkD.learn1
    rw [show rightB ⟨5, numB (otherMagic own) 4⟩ = true from rfl, ha]
    simp only [Bool.and_self, if_true]
    have hu : unfitB ⟨5, numB (otherMagic own) 4⟩ = false := by
      have : unfitB ⟨5, numB (otherMagic own) 4⟩ = (valB (numB (otherMagic own) 4) == 0) := rfl
      rw [this, hv]
      simp; omega
    unfold LinkD.learn
    rw [hu, if_neg (by decide)]
    show ({ l with magic := valB (numB (otherMagic own) 4) } : LinkD) = _
    rw [hv]
  rw [this]
  rfl
theorem may_short {l : LinkD} (hl : l.may = true) : ({ l with short := false } : LinkD).may = true := by
  rw [may_iff] at hl ⊢
  exact ⟨hl.mru, hl.mrru, hl.magic, hl.disc, hl.num⟩
theorem may_magic {l : LinkD} {m : Int} (hl : l.may = true) (h : 1 ≤ m ∧ m ≤ 4294967295) : ({ l with magic := m } : LinkD).may = true := by
  rw [may_iff] at hl ⊢
  exact ⟨hl.mru, hl.mrru, ⟨by show 0 ≤ m; omega, h.2⟩, hl.disc, hl.num⟩
theorem ask_small {l : LinkD} (hl : l.may = true) {o : OptD} (ho : o ∈ l.ask) : o.data.size ≤ 253 := by
  have e : l.ask = l.askL kindsL := by simp [LinkD.ask, hl]
  rw [e] at ho
  obtain ⟨k, hk, _, rfl⟩ := askL_kind l (fun k h => h) ho
  have := opt_fit hl hk
  simp only [fitB, Bool.and_eq_true, decide_eq_true_eq] at this
  exact this.2.2
end Go.Proofs.YthlfghheciamcaaDoor
