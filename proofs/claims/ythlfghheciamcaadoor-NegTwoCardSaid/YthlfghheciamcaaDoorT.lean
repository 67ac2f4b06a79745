/-
  The plain laws of package policy: what a link asks for is taken as that link, and judged as it should be.
  Conditions: none (plain lemmas; no program's text in sight).
-/
import Derived.Test.YthlfghheciamcaaDoorK8
namespace Go.Proofs.YthlfghheciamcaaDoor
open Go.RowKit
set_option linter.unusedVariables false

/-! ### numbers there and back -/
theorem shiftIn_of (n : Nat) (b : UInt8) (h : n < 36028797018963968) : shiftIn (n : Int) b = ((n * 256 + b.toNat : Nat) : Int) := by
  have hb := b.toNat_lt
  have h8 : b.toNat < 2 ^ 8 := by simpa using hb
  unfold shiftIn
  have e1 : wrap64 ((n : Int) * 256) = ((n * 256 : Nat) : Int) := by unfold wrap64; omega
  rw [e1]
  have e2 : (n * 256 : Nat) ||| b.toNat = n * 256 + b.toNat := by
    rw [Nat.mul_comm, show (256 : Nat) = 2 ^ 8 from rfl]
    exact (Nat.two_pow_add_eq_or_of_lt h8 n).symm
  show IntKind.i64.wrap ((BitVec.ofInt 64 ((n * 256 : Nat) : Int) ||| BitVec.ofInt 64 ((b.toNat : Nat) : Int)).toNat : Int) = _
  rw [BitVec.toNat_or, i64_ofInt _ (by omega), i64_ofInt _ (by omega), e2, IntKind.wrap_i64]
  omega

theorem byteI_nat (n i : Nat) : byteI (n : Int) i = ((n / 2 ^ (8 * i) % 256 : Nat) : Int) := by
  unfold byteI
  have e : (2 : Int) ^ (8 * i) = ((2 ^ (8 * i) : Nat) : Int) := (Int.natCast_pow 2 (8 * i)).symm
  rw [e, ← Int.natCast_ediv]
  omega
theorem byteAt_nat (n i : Nat) : (byteAt (n : Int) i).toNat = n / 2 ^ (8 * i) % 256 := by
  have := byteAt_toNat (n : Int) i
  rw [byteI_nat] at this
  omega

theorem val_two (n : Nat) (h : n < 65536) : valB (numB (n : Int) 2) = n := by
  simp only [valB, numB, numL, valL, List.foldl_cons, List.foldl_nil]
  have e0 : shiftIn (0 : Int) (byteAt (n : Int) 1) = ((0 * 256 + (byteAt (n : Int) 1).toNat : Nat) : Int) := shiftIn_of 0 _ (by omega)
  rw [e0, byteAt_nat, shiftIn_of _ _ (by omega), byteAt_nat]
  simp only [Nat.reduceMul, Nat.reducePow, Nat.zero_mul, Nat.zero_add, Nat.div_one]
  omega
theorem val_four (n : Nat) (h : n < 4294967296) : valB (numB (n : Int) 4) = n := by
  simp only [valB, numB, numL, valL, List.foldl_cons, List.foldl_nil]
  have e0 : shiftIn (0 : Int) (byteAt (n : Int) 3) = ((0 * 256 + (byteAt (n : Int) 3).toNat : Nat) : Int) := shiftIn_of 0 _ (by omega)
  rw [e0, byteAt_nat, shiftIn_of _ _ (by omega), byteAt_nat, shiftIn_of _ _ (by omega), byteAt_nat, shiftIn_of _ _ (by omega), byteAt_nat]
  simp only [Nat.reduceMul, Nat.reducePow, Nat.zero_mul, Nat.zero_add, Nat.div_one]
  omega
theorem val_two' (x : Int) (h0 : 0 ≤ x) (h : x < 65536) : valB (numB x 2) = x := by
  obtain ⟨n, rfl⟩ := Int.eq_ofNat_of_zero_le h0
  exact val_two n (by omega)
theorem val_four' (x : Int) (h0 : 0 ≤ x) (h : x < 4294967296) : valB (numB x 4) = x := by
  obtain ⟨n, rfl⟩ := Int.eq_ofNat_of_zero_le h0
  exact val_four n (by omega)

/-! ### what a link asks for, kind by kind -/
structure MayD (l : LinkD) : Prop where
  mru : l.mru = 0 ∨ (128 ≤ l.mru ∧ l.mru ≤ 1500)
  mrru : l.mrru = 0 ∨ (128 ≤ l.mrru ∧ l.mrru ≤ 1500)
  magic : 0 ≤ l.magic ∧ l.magic ≤ 4294967295
  disc : l.disc.size ≤ 20
  num : 0 ≤ l.num ∧ l.num ≤ 65535
theorem may_iff (l : LinkD) : l.may = true ↔ MayD l := by
  constructor
  · intro h
    simp only [LinkD.may, sizeB, unitB, Bool.and_eq_true, Bool.or_eq_true, beq_iff_eq, decide_eq_true_eq] at h
    exact ⟨h.1, h.2.1, ⟨h.2.2.1, h.2.2.2.1⟩, h.2.2.2.2.1, h.2.2.2.2.2⟩
  · intro h
    simp only [LinkD.may, sizeB, unitB, Bool.and_eq_true, Bool.or_eq_true, beq_iff_eq, decide_eq_true_eq]
    exact ⟨h.mru, h.mrru, h.magic.1, h.magic.2, h.disc, h.num⟩

theorem in_kinds {k : Int} (h : k ∈ kindsL) : k = 1 ∨ k = 5 ∨ k = 17 ∨ k = 18 ∨ k = 19 ∨ k = 23 := by simpa [kindsL] using h
theorem opt_kind (l : LinkD) {k : Int} (h : k ∈ kindsL) : (l.opt k).kind = k := by
  rcases in_kinds h with rfl | rfl | rfl | rfl | rfl | rfl <;> rfl
theorem opt_right {l : LinkD} (hl : l.may = true) {k : Int} (h : k ∈ kindsL) (ha : l.asks k = true) : rightB (l.opt k) = true := by
  have hm := (may_iff l).1 hl
  rcases in_kinds h with rfl | rfl | rfl | rfl | rfl | rfl
  · rfl
  · rfl
  · rfl
  · rfl
  · have h0 : l.disc.toList.isEmpty = false := by simpa [LinkD.asks] using ha
    have h1 : 1 ≤ l.disc.size := by
      generalize l.disc = d at h0
      rw [ByteArray.toList_eq] at h0
      obtain ⟨⟨x⟩⟩ := d
      cases x with
      | nil => simp at h0
      | cons a x => simp [ByteArray.size]
    have h2 := hm.disc
    have e : l.opt 19 = ⟨19, l.disc⟩ := rfl
    rw [e]
    simp [rightB, sizeK, h1, h2]
  · rfl
theorem opt_fit {l : LinkD} (hl : l.may = true) {k : Int} (h : k ∈ kindsL) : fitB (l.opt k) = true := by
  have hm := (may_iff l).1 hl
  rcases in_kinds h with rfl | rfl | rfl | rfl | rfl | rfl
  · rfl
  · rfl
  · rfl
  · rfl
  · have h2 := hm.disc
    have e : l.opt 19 = ⟨19, l.disc⟩ := rfl
    rw [e]
    simp [fitB]; omega
  · rfl

theorem askL_cons (l : LinkD) (k : Int) (ks : List Int) : l.askL (k :: ks) = if l.asks k then l.opt k :: l.askL ks else l.askL ks := by
  unfold LinkD.askL
  by_cases h : l.asks k = true
  · rw [if_pos h, List.filter_cons_of_pos h]; rfl
  · rw [if_neg h, List.filter_cons_of_neg h]
theorem askL_kind (l : LinkD) {ks : List Int} (hk : ∀ k ∈ ks, k ∈ kindsL) {o : OptD} (h : o ∈ l.askL ks) : ∃ k ∈ ks, l.asks k = true ∧ o = l.opt k := by
  simp only [LinkD.askL, List.mem_map, List.mem_filter] at h
  obtain ⟨k, ⟨h1, h2⟩, rfl⟩ := h
  exact ⟨k, h1, h2, rfl⟩
theorem twice_none {pre : List OptD} {o : OptD} (h : ∀ p ∈ pre, p.kind ≠ o.kind) : twiceB pre o = false := by
  simp only [twiceB, List.any_eq_false, beq_iff_eq]
  exact h

theorem takenGo_all {l : LinkD} (hl : l.may = true) : ∀ (ks : List Int) (L : LinkD) (pre : List OptD), (∀ k ∈ ks, k ∈ kindsL) → ks.Nodup → (∀ p ∈ pre, ∀ k ∈ ks, p.kind ≠ k) →
    takenGo L pre (l.askL ks) = some (ks.foldl (fun L k => if l.asks k then L.set (l.opt k) else L) L)
  | [], L, pre, _, _, _ => rfl
  | k :: ks, L, pre, hk, hn, hp => by
    have hkk := hk k (by simp)
    have hn' := List.nodup_cons.1 hn
    rw [askL_cons]
    by_cases ha : l.asks k = true
    · rw [if_pos ha, takenGo, opt_right hl hkk ha, twice_none (fun p hp' => by rw [opt_kind l hkk]; exact hp p hp' k (by simp))]
      simp only [Bool.not_false, Bool.and_true, if_true, List.foldl_cons, if_pos ha]
      refine takenGo_all hl ks _ _ (fun q hq => hk q (by simp [hq])) hn'.2 (fun p hp' q hq => ?_)
      rcases List.mem_append.1 hp' with h | h
      · exact hp p h q (by simp [hq])
      · have : p = l.opt k := by simpa using h
        rw [this, opt_kind l hkk]
        intro e; exact hn'.1 (e ▸ hq)
    · rw [if_neg ha, List.foldl_cons, if_neg ha]
      exact takenGo_all hl ks _ _ (fun q hq => hk q (by simp [hq])) hn'.2 (fun p hp' q hq => hp p hp' q (by simp [hq]))

theorem kinds_nodup : kindsL.Nodup := by decide

theorem bytes_empty {d : ByteArray} (h : d.toList.isEmpty = true) : d = ⟨#[]⟩ := by
  rw [ByteArray.toList_eq] at h
  obtain ⟨⟨x⟩⟩ := d
  cases x with
  | nil => rfl
  | cons a x => simp at h

theorem set_all {l : LinkD} (hl : l.may = true) : kindsL.foldl (fun L k => if l.asks k then L.set (l.opt k) else L) zeroL = l := by
  have hm := (may_iff l).1 hl
  obtain ⟨mru, magic, mrru, short, disc, num⟩ := l
  have hb1 : mru = 0 ∨ (128 ≤ mru ∧ mru ≤ 1500) := hm.mru
  have hb5 : 0 ≤ magic ∧ magic ≤ 4294967295 := hm.magic
  have hb17 : mrru = 0 ∨ (128 ≤ mrru ∧ mrru ≤ 1500) := hm.mrru
  have hb23 : 0 ≤ num ∧ num ≤ 65535 := hm.num
  have e1 := val_two' mru (by omega) (by omega)
  have e5 := val_four' magic (by omega) (by omega)
  have e17 := val_two' mrru (by omega) (by omega)
  have e23 := val_two' num (by omega) (by omega)
  have a1 : (LinkD.asks ⟨mru, magic, mrru, short, disc, num⟩ 1) = (mru != 0) := rfl
  have a5 : (LinkD.asks ⟨mru, magic, mrru, short, disc, num⟩ 5) = (magic != 0) := rfl
  have a17 : (LinkD.asks ⟨mru, magic, mrru, short, disc, num⟩ 17) = (mrru != 0) := rfl
  have a18 : (LinkD.asks ⟨mru, magic, mrru, short, disc, num⟩ 18) = short := rfl
  have a19 : (LinkD.asks ⟨mru, magic, mrru, short, disc, num⟩ 19) = !disc.toList.isEmpty := rfl
  have a23 : (LinkD.asks ⟨mru, magic, mrru, short, disc, num⟩ 23) = (num != 0) := rfl
  have s1 : ∀ L : LinkD, L.set (LinkD.opt ⟨mru, magic, mrru, short, disc, num⟩ 1) = { L with mru := valB (numB mru 2) } := fun _ => rfl
  have s5 : ∀ L : LinkD, L.set (LinkD.opt ⟨mru, magic, mrru, short, disc, num⟩ 5) = { L with magic := valB (numB magic 4) } := fun _ => rfl
  have s17 : ∀ L : LinkD, L.set (LinkD.opt ⟨mru, magic, mrru, short, disc, num⟩ 17) = { L with mrru := valB (numB mrru 2) } := fun _ => rfl
  have s18 : ∀ L : LinkD, L.set (LinkD.opt ⟨mru, magic, mrru, short, disc, num⟩ 18) = { L with short := true } := fun _ => rfl
  have s19 : ∀ L : LinkD, L.set (LinkD.opt ⟨mru, magic, mrru, short, disc, num⟩ 19) = { L with disc := disc } := fun _ => rfl
  have s23 : ∀ L : LinkD, L.set (LinkD.opt ⟨mru, magic, mrru, short, disc, num⟩ 23) = { L with num := valB (numB num 2) } := fun _ => rfl
  have t1 : (if (mru != 0) = true then mru else 0) = mru := by by_cases h : mru = 0 <;> simp [h]
  have t5 : (if (magic != 0) = true then magic else 0) = magic := by by_cases h : magic = 0 <;> simp [h]
  have t17 : (if (mrru != 0) = true then mrru else 0) = mrru := by by_cases h : mrru = 0 <;> simp [h]
  have t23 : (if (num != 0) = true then num else 0) = num := by by_cases h : num = 0 <;> simp [h]
  have t18 : (if short = true then true else false) = short := by cases short <;> rfl
  have t19 : (if (!disc.toList.isEmpty) = true then disc else ⟨#[]⟩) = disc := by
    cases h : disc.toList.isEmpty with
    | true => rw [bytes_empty h]; rfl
    | false => rfl
  simp only [kindsL, List.foldl_cons, List.foldl_nil, a1, a5, a17, a18, a19, a23, s1, s5, s17, s18, s19, s23, e1, e5, e17, e23]
  have f1 : (if (mru != 0) = true then { zeroL with mru := mru } else zeroL) = { zeroL with mru := mru } := by by_cases h : mru = 0 <;> simp [h, zeroL]
  rw [f1]
  have f5 : (if (magic != 0) = true then { ({ zeroL with mru := mru } : LinkD) with magic := magic } else { zeroL with mru := mru }) = ⟨mru, magic, 0, false, ⟨#[]⟩, 0⟩ := by by_cases h : magic = 0 <;> simp [h, zeroL]
  rw [f5]
  have f17 : (if (mrru != 0) = true then ({ mru := mru, magic := magic, mrru := mrru, short := false, disc := ⟨#[]⟩, num := 0 } : LinkD) else ⟨mru, magic, 0, false, ⟨#[]⟩, 0⟩) = ⟨mru, magic, mrru, false, ⟨#[]⟩, 0⟩ := by by_cases h : mrru = 0 <;> simp [h]
  rw [f17]
  have f18 : (if short = true then ({ mru := mru, magic := magic, mrru := mrru, short := true, disc := ⟨#[]⟩, num := 0 } : LinkD) else ⟨mru, magic, mrru, false, ⟨#[]⟩, 0⟩) = ⟨mru, magic, mrru, short, ⟨#[]⟩, 0⟩ := by cases short <;> rfl
  rw [f18]
  have f19 : (if (!disc.toList.isEmpty) = true then ({ mru := mru, magic := magic, mrru := mrru, short := short, disc := disc, num := 0 } : LinkD) else ⟨mru, magic, mrru, short, ⟨#[]⟩, 0⟩) = ⟨mru, magic, mrru, short, disc, 0⟩ := by
    cases h : disc.toList.isEmpty with
    | true => rw [bytes_empty h]; rfl
    | false => rfl
  rw [f19]
  by_cases h : num = 0 <;> simp [h]

theorem taken_ask {l : LinkD} (hl : l.may = true) : takenD l.ask = (l, 0) := by
  have e : l.ask = l.askL kindsL := by simp [LinkD.ask, hl]
  rw [e]
  unfold takenD
  rw [takenGo_all hl kindsL zeroL [] (fun k h => h) kinds_nodup (by simp), set_all hl]
  simp only [hl, if_true]

/-! ### judged -/
def shortBad (own : LinkD) (o : OptD) : Bool := o.kind == 18 && !own.short
theorem judgeGo_all {own l : LinkD} (hl : l.may = true) : ∀ (ks : List Int) (pre bad bet : List OptD), (∀ k ∈ ks, k ∈ kindsL) → ks.Nodup → (∀ p ∈ pre, ∀ k ∈ ks, p.kind ≠ k) →
    judgeGo own pre (l.askL ks) bad bet = some (bad ++ (l.askL ks).filter (shortBad own), bet ++ (((l.askL ks).filter fun o => !shortBad own o).filter fun o => (betterD own o).2).map fun o => (betterD own o).1)
  | [], pre, bad, bet, _, _, _ => by simp [LinkD.askL, judgeGo]
  | k :: ks, pre, bad, bet, hk, hn, hp => by
    have hkk := hk k (by simp)
    have hn' := List.nodup_cons.1 hn
    rw [askL_cons]
    by_cases ha : l.asks k = true
    · have hp' : ∀ p ∈ pre ++ [l.opt k], ∀ q ∈ ks, p.kind ≠ q := fun p hp' q hq => by
        rcases List.mem_append.1 hp' with h | h
        · exact hp p h q (by simp [hq])
        · have : p = l.opt k := by simpa using h
          rw [this, opt_kind l hkk]
          intro e; exact hn'.1 (e ▸ hq)
      have ih := fun bad bet => judgeGo_all (own := own) hl ks (pre ++ [l.opt k]) bad bet (fun q hq => hk q (by simp [hq])) hn'.2 hp'
      rw [if_pos ha, judgeGo, opt_fit hl hkk, if_pos rfl]
      have hb : badB own pre (l.opt k) = shortBad own (l.opt k) := by
        unfold badB shortBad
        rw [opt_right hl hkk ha, twice_none (fun p hp' => by rw [opt_kind l hkk]; exact hp p hp' k (by simp))]
        simp
      rw [hb]
      cases hs : shortBad own (l.opt k) with
      | true =>
        rw [if_pos rfl, ih]
        simp [hs]
      | false =>
        rw [if_neg (by decide)]
        cases hbt : (betterD own (l.opt k)).2 with
        | true =>
          rw [if_pos rfl, ih]
          simp [hs, hbt]
        | false =>
          rw [if_neg (by decide), ih]
          simp [hs, hbt]
    · rw [if_neg ha]
      exact judgeGo_all hl ks pre bad bet (fun q hq => hk q (by simp [hq])) hn'.2 (fun p hp' q hq => hp p hp' q (by simp [hq]))
end Go.Proofs.YthlfghheciamcaaDoor
