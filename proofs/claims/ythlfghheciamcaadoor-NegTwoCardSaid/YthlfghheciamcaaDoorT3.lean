/-
  The plain laws of package policy, on: to learn the same again turns nothing more; what is learned may be.
  Conditions: none (plain lemmas; no program's text in sight).
-/
import Derived.Test.YthlfghheciamcaaDoorT2
namespace Go.Proofs.YthlfghheciamcaaDoor
open Go.RowKit
set_option linter.unusedVariables false
set_option linter.unusedSimpArgs false

section
variable {V : Type}
def runC (asked : V → Bool) : List (Option V) → V → V
  | [], x => x
  | none :: cs, x => runC asked cs x
  | some v :: cs, x => if asked x then runC asked cs v else runC asked cs x
theorem runC_out (asked : V → Bool) : ∀ (cs : List (Option V)) (x : V), asked x = false → runC asked cs x = x
  | [], x, _ => rfl
  | none :: cs, x, h => runC_out asked cs x h
  | some v :: cs, x, h => by rw [runC, if_neg (by rw [h]; decide)]; exact runC_out asked cs x h
theorem runC_two (asked : V → Bool) : ∀ (cs : List (Option V)) (x y : V), asked x = true → asked y = true → runC asked cs y = runC asked cs x ∨ (runC asked cs y = y ∧ runC asked cs x = x)
  | [], x, y, _, _ => .inr ⟨rfl, rfl⟩
  | none :: cs, x, y, hx, hy => runC_two asked cs x y hx hy
  | some v :: cs, x, y, hx, hy => .inl (by rw [runC, runC, if_pos hx, if_pos hy])
theorem runC_twice (asked : V → Bool) (cs : List (Option V)) (x : V) : runC asked cs (runC asked cs x) = runC asked cs x := by
  cases hr : asked (runC asked cs x) with
  | false => exact runC_out asked cs _ hr
  | true =>
    cases hx : asked x with
    | false => rw [runC_out asked cs x hx, runC_out asked cs x hx]
    | true =>
      rcases runC_two asked cs x (runC asked cs x) hx hr with h | ⟨h, _⟩
      · exact h
      · exact h
end

/-- what is left of a word -/
def pick1 {V : Type} (c : Option V) (q : Bool) (x : V) : V := match c with | some v => if q then v else x | none => x
@[simp] theorem pick1_none {V : Type} (q : Bool) (x : V) : pick1 none q x = x := rfl
@[simp] theorem pick1_false {V : Type} (c : Option V) (x : V) : pick1 c false x = x := by cases c <;> rfl
@[simp] theorem pick1_true {V : Type} (v x : V) : pick1 (some v) true x = v := rfl

/-- one word of a link, and what an option does to it -/
structure Lens (nak : Bool) (V : Type) where
  get : LinkD → V
  asked : V → Bool
  con : OptD → Option V
  law : ∀ l o, get (l.learn1 nak o) = pick1 (con o) (asked (get l)) (get l)

theorem Lens.all {nak : Bool} {V : Type} (L : Lens nak V) : ∀ (os : List OptD) (l : LinkD), L.get (l.learnAll nak os) = runC L.asked (os.map L.con) (L.get l)
  | [], l => rfl
  | o :: os, l => by
    show L.get ((l.learn1 nak o).learnAll nak os) = _
    rw [L.all os (l.learn1 nak o), L.law, List.map_cons]
    cases L.con o with
    | none => rfl
    | some v =>
      rw [runC]
      cases L.asked (L.get l) <;> rfl
theorem Lens.twice {nak : Bool} {V : Type} (L : Lens nak V) (os : List OptD) (l : LinkD) : L.get ((l.learnAll nak os).learnAll nak os) = L.get (l.learnAll nak os) := by
  rw [L.all, L.all, runC_twice]

def nz (x : Int) : Bool := x != 0
def ne (d : ByteArray) : Bool := !d.toList.isEmpty
theorem kinds_of {o : OptD} (h : rightB o = true) : o.kind = 1 ∨ o.kind = 5 ∨ o.kind = 17 ∨ o.kind = 18 ∨ o.kind = 19 ∨ o.kind = 23 := by
  have := right_kind h
  unfold sizeK at this
  by_cases h1 : o.kind = 1
  · exact .inl h1
  by_cases h5 : o.kind = 5
  · exact .inr (.inl h5)
  by_cases h17 : o.kind = 17
  · exact .inr (.inr (.inl h17))
  by_cases h18 : o.kind = 18
  · exact .inr (.inr (.inr (.inl h18)))
  by_cases h19 : o.kind = 19
  · exact .inr (.inr (.inr (.inr (.inl h19))))
  by_cases h23 : o.kind = 23
  · exact .inr (.inr (.inr (.inr (.inr h23))))
  simp [h1, h5, h17, h18, h19, h23] at this

theorem valB_two (a b : UInt8) : valB ⟨#[a, b]⟩ = ((a.toNat * 256 + b.toNat : Nat) : Int) := by
  have ha := a.toNat_lt
  show shiftIn (shiftIn ((0 : Nat) : Int) a) b = _
  rw [shiftIn_of _ _ (by omega), shiftIn_of _ _ (by omega)]
  omega
theorem valB_four (a b c d : UInt8) : valB ⟨#[a, b, c, d]⟩ = ((((a.toNat * 256 + b.toNat) * 256 + c.toNat) * 256 + d.toNat : Nat) : Int) := by
  have ha := a.toNat_lt
  have hb := b.toNat_lt
  have hc := c.toNat_lt
  show shiftIn (shiftIn (shiftIn (shiftIn ((0 : Nat) : Int) a) b) c) d = _
  rw [shiftIn_of _ _ (by omega), shiftIn_of _ _ (by omega), shiftIn_of _ _ (by omega), shiftIn_of _ _ (by omega)]
  omega
theorem bytes_two {d : ByteArray} (h : d.size = 2) : ∃ a b, d = ⟨#[a, b]⟩ := by
  obtain ⟨⟨l⟩⟩ := d
  match l, h with
  | [a, b], _ => exact ⟨a, b, rfl⟩
theorem bytes_four {d : ByteArray} (h : d.size = 4) : ∃ a b c e, d = ⟨#[a, b, c, e]⟩ := by
  obtain ⟨⟨l⟩⟩ := d
  match l, h with
  | [a, b, c, e], _ => exact ⟨a, b, c, e, rfl⟩
theorem val_range_two {d : ByteArray} (h : d.size = 2) : 0 ≤ valB d ∧ valB d ≤ 65535 := by
  obtain ⟨a, b, rfl⟩ := bytes_two h
  rw [valB_two]
  have ha := a.toNat_lt
  have hb := b.toNat_lt
  omega
theorem val_range_four {d : ByteArray} (h : d.size = 4) : 0 ≤ valB d ∧ valB d ≤ 4294967295 := by
  obtain ⟨a, b, c, e, rfl⟩ := bytes_four h
  rw [valB_four]
  have ha := a.toNat_lt
  have hb := b.toNat_lt
  have hc := c.toNat_lt
  have he := e.toNat_lt
  omega
theorem link_ext {a b : LinkD} (h0 : a.mru = b.mru) (h1 : a.magic = b.magic) (h2 : a.mrru = b.mrru) (h3 : a.short = b.short) (h4 : a.disc = b.disc) (h5 : a.num = b.num) : a = b := by
  cases a; cases b; simp_all

/-- what an option sets a number to; none: it leaves it -/
def conI (nak : Bool) (k : Int) (o : OptD) : Option Int := if rightB o && o.kind == k then (if nak then (if unfitB o then none else some (valB o.data)) else some 0) else none
def conS (nak : Bool) (o : OptD) : Option Bool := if rightB o && o.kind == 18 then some nak else none
def conD (nak : Bool) (o : OptD) : Option ByteArray := if rightB o && o.kind == 19 then some (if nak then o.data else ⟨#[]⟩) else none

theorem learn1_wrong {l : LinkD} {nak : Bool} {o : OptD} (h : rightB o = false) : l.learn1 nak o = l := by simp [LinkD.learn1, h]
theorem learn1_unasked {l : LinkD} {nak : Bool} {o : OptD} (h : l.asks o.kind = false) : l.learn1 nak o = l := by simp [LinkD.learn1, h]
theorem learn1_nak {l : LinkD} {o : OptD} (h : rightB o = true) (ha : l.asks o.kind = true) : l.learn1 true o = if unfitB o then l else l.set o := by simp [LinkD.learn1, h, ha, LinkD.learn]
theorem learn1_rej {l : LinkD} {o : OptD} (h : rightB o = true) (ha : l.asks o.kind = true) : l.learn1 false o = l.clear o.kind := by simp [LinkD.learn1, h, ha]

def yes (x : Bool) : Bool := x
theorem law_mru (nak : Bool) (l : LinkD) (o : OptD) : (l.learn1 nak o).mru = pick1 (conI nak 1 o) (nz l.mru) l.mru := by
  rcases h : rightB o with _ | _
  · simp [learn1_wrong h, conI, h]
  · rcases ha : l.asks o.kind with _ | _
    · rw [learn1_unasked ha]
      by_cases hk : o.kind = 1
      · have : nz l.mru = false := by rw [hk] at ha; exact ha
        rw [this]
        cases conI nak 1 o <;> simp
      · simp [conI, hk]
    · cases nak with
      | false =>
        rw [learn1_rej h ha]
        rcases kinds_of h with e | e | e | e | e | e
        · have : nz l.mru = true := by rw [e] at ha; exact ha
          simp [conI, h, e, this, LinkD.clear, LinkD.put]
        · simp [conI, h, e, LinkD.clear, LinkD.put]
        · simp [conI, h, e, LinkD.clear, LinkD.put]
        · simp [conI, h, e, LinkD.clear, LinkD.put]
        · simp [conI, h, e, LinkD.clear, LinkD.put]
        · simp [conI, h, e, LinkD.clear, LinkD.put]
      | true =>
        rw [learn1_nak h ha]
        rcases hu : unfitB o with _ | _
        · rcases kinds_of h with e | e | e | e | e | e
          · have : nz l.mru = true := by rw [e] at ha; exact ha
            simp [conI, h, e, this, hu, LinkD.set, LinkD.put]
          · simp [conI, h, e, LinkD.set, LinkD.put]
          · simp [conI, h, e, LinkD.set, LinkD.put]
          · simp [conI, h, e, LinkD.set, LinkD.put]
          · simp [conI, h, e, LinkD.set, LinkD.put]
          · simp [conI, h, e, LinkD.set, LinkD.put]
        · simp [conI, hu]
theorem law_magic (nak : Bool) (l : LinkD) (o : OptD) : (l.learn1 nak o).magic = pick1 (conI nak 5 o) (nz l.magic) l.magic := by
  rcases h : rightB o with _ | _
  · simp [learn1_wrong h, conI, h]
  · rcases ha : l.asks o.kind with _ | _
    · rw [learn1_unasked ha]
      by_cases hk : o.kind = 5
      · have : nz l.magic = false := by rw [hk] at ha; exact ha
        rw [this]
        cases conI nak 5 o <;> simp
      · simp [conI, hk]
    · cases nak with
      | false =>
        rw [learn1_rej h ha]
        rcases kinds_of h with e | e | e | e | e | e
        · simp [conI, h, e, LinkD.clear, LinkD.put]
        · have : nz l.magic = true := by rw [e] at ha; exact ha
          simp [conI, h, e, this, LinkD.clear, LinkD.put]
        · simp [conI, h, e, LinkD.clear, LinkD.put]
        · simp [conI, h, e, LinkD.clear, LinkD.put]
        · simp [conI, h, e, LinkD.clear, LinkD.put]
        · simp [conI, h, e, LinkD.clear, LinkD.put]
      | true =>
        rw [learn1_nak h ha]
        rcases hu : unfitB o with _ | _
        · rcases kinds_of h with e | e | e | e | e | e
          · simp [conI, h, e, LinkD.set, LinkD.put]
          · have : nz l.magic = true := by rw [e] at ha; exact ha
            simp [conI, h, e, this, hu, LinkD.set, LinkD.put]
          · simp [conI, h, e, LinkD.set, LinkD.put]
          · simp [conI, h, e, LinkD.set, LinkD.put]
          · simp [conI, h, e, LinkD.set, LinkD.put]
          · simp [conI, h, e, LinkD.set, LinkD.put]
        · simp [conI, hu]
theorem law_mrru (nak : Bool) (l : LinkD) (o : OptD) : (l.learn1 nak o).mrru = pick1 (conI nak 17 o) (nz l.mrru) l.mrru := by
  rcases h : rightB o with _ | _
  · simp [learn1_wrong h, conI, h]
  · rcases ha : l.asks o.kind with _ | _
    · rw [learn1_unasked ha]
      by_cases hk : o.kind = 17
      · have : nz l.mrru = false := by rw [hk] at ha; exact ha
        rw [this]
        cases conI nak 17 o <;> simp
      · simp [conI, hk]
    · cases nak with
      | false =>
        rw [learn1_rej h ha]
        rcases kinds_of h with e | e | e | e | e | e
        · simp [conI, h, e, LinkD.clear, LinkD.put]
        · simp [conI, h, e, LinkD.clear, LinkD.put]
        · have : nz l.mrru = true := by rw [e] at ha; exact ha
          simp [conI, h, e, this, LinkD.clear, LinkD.put]
        · simp [conI, h, e, LinkD.clear, LinkD.put]
        · simp [conI, h, e, LinkD.clear, LinkD.put]
        · simp [conI, h, e, LinkD.clear, LinkD.put]
      | true =>
        rw [learn1_nak h ha]
        rcases hu : unfitB o with _ | _
        · rcases kinds_of h with e | e | e | e | e | e
          · simp [conI, h, e, LinkD.set, LinkD.put]
          · simp [conI, h, e, LinkD.set, LinkD.put]
          · have : nz l.mrru = true := by rw [e] at ha; exact ha
            simp [conI, h, e, this, hu, LinkD.set, LinkD.put]
          · simp [conI, h, e, LinkD.set, LinkD.put]
          · simp [conI, h, e, LinkD.set, LinkD.put]
          · simp [conI, h, e, LinkD.set, LinkD.put]
        · simp [conI, hu]
theorem law_num (nak : Bool) (l : LinkD) (o : OptD) : (l.learn1 nak o).num = pick1 (conI nak 23 o) (nz l.num) l.num := by
  rcases h : rightB o with _ | _
  · simp [learn1_wrong h, conI, h]
  · rcases ha : l.asks o.kind with _ | _
    · rw [learn1_unasked ha]
      by_cases hk : o.kind = 23
      · have : nz l.num = false := by rw [hk] at ha; exact ha
        rw [this]
        cases conI nak 23 o <;> simp
      · simp [conI, hk]
    · cases nak with
      | false =>
        rw [learn1_rej h ha]
        rcases kinds_of h with e | e | e | e | e | e
        · simp [conI, h, e, LinkD.clear, LinkD.put]
        · simp [conI, h, e, LinkD.clear, LinkD.put]
        · simp [conI, h, e, LinkD.clear, LinkD.put]
        · simp [conI, h, e, LinkD.clear, LinkD.put]
        · simp [conI, h, e, LinkD.clear, LinkD.put]
        · have : nz l.num = true := by rw [e] at ha; exact ha
          simp [conI, h, e, this, LinkD.clear, LinkD.put]
      | true =>
        rw [learn1_nak h ha]
        rcases hu : unfitB o with _ | _
        · rcases kinds_of h with e | e | e | e | e | e
          · simp [conI, h, e, LinkD.set, LinkD.put]
          · simp [conI, h, e, LinkD.set, LinkD.put]
          · simp [conI, h, e, LinkD.set, LinkD.put]
          · simp [conI, h, e, LinkD.set, LinkD.put]
          · simp [conI, h, e, LinkD.set, LinkD.put]
          · have : nz l.num = true := by rw [e] at ha; exact ha
            simp [conI, h, e, this, hu, LinkD.set, LinkD.put]
        · simp [conI, hu]
theorem law_short (nak : Bool) (l : LinkD) (o : OptD) : (l.learn1 nak o).short = pick1 (conS nak o) (yes l.short) l.short := by
  rcases h : rightB o with _ | _
  · simp [learn1_wrong h, conS, h]
  · rcases ha : l.asks o.kind with _ | _
    · rw [learn1_unasked ha]
      by_cases hk : o.kind = 18
      · have : yes l.short = false := by rw [hk] at ha; exact ha
        rw [this]
        cases conS nak o <;> simp
      · simp [conS, hk]
    · cases nak with
      | false =>
        rw [learn1_rej h ha]
        rcases kinds_of h with e | e | e | e | e | e
        · simp [conS, h, e, LinkD.clear, LinkD.put]
        · simp [conS, h, e, LinkD.clear, LinkD.put]
        · simp [conS, h, e, LinkD.clear, LinkD.put]
        · have : yes l.short = true := by rw [e] at ha; exact ha
          simp [conS, h, e, this, LinkD.clear, LinkD.put]
        · simp [conS, h, e, LinkD.clear, LinkD.put]
        · simp [conS, h, e, LinkD.clear, LinkD.put]
      | true =>
        rw [learn1_nak h ha]
        rcases hu : unfitB o with _ | _
        · rcases kinds_of h with e | e | e | e | e | e
          · simp [conS, h, e, LinkD.set, LinkD.put]
          · simp [conS, h, e, LinkD.set, LinkD.put]
          · simp [conS, h, e, LinkD.set, LinkD.put]
          · have : yes l.short = true := by rw [e] at ha; exact ha
            simp [conS, h, e, this, hu, LinkD.set, LinkD.put]
          · simp [conS, h, e, LinkD.set, LinkD.put]
          · simp [conS, h, e, LinkD.set, LinkD.put]
        · have hne : o.kind ≠ 18 := by
            intro e
            simp [unfitB, e] at hu
          simp [conS, hne]
theorem law_disc (nak : Bool) (l : LinkD) (o : OptD) : (l.learn1 nak o).disc = pick1 (conD nak o) (ne l.disc) l.disc := by
  rcases h : rightB o with _ | _
  · simp [learn1_wrong h, conD, h]
  · rcases ha : l.asks o.kind with _ | _
    · rw [learn1_unasked ha]
      by_cases hk : o.kind = 19
      · have : ne l.disc = false := by rw [hk] at ha; exact ha
        rw [this]
        cases conD nak o <;> simp
      · simp [conD, hk]
    · cases nak with
      | false =>
        rw [learn1_rej h ha]
        rcases kinds_of h with e | e | e | e | e | e
        · simp [conD, h, e, LinkD.clear, LinkD.put]
        · simp [conD, h, e, LinkD.clear, LinkD.put]
        · simp [conD, h, e, LinkD.clear, LinkD.put]
        · simp [conD, h, e, LinkD.clear, LinkD.put]
        · have : ne l.disc = true := by rw [e] at ha; exact ha
          simp [conD, h, e, this, LinkD.clear, LinkD.put]
        · simp [conD, h, e, LinkD.clear, LinkD.put]
      | true =>
        rw [learn1_nak h ha]
        rcases hu : unfitB o with _ | _
        · rcases kinds_of h with e | e | e | e | e | e
          · simp [conD, h, e, LinkD.set, LinkD.put]
          · simp [conD, h, e, LinkD.set, LinkD.put]
          · simp [conD, h, e, LinkD.set, LinkD.put]
          · simp [conD, h, e, LinkD.set, LinkD.put]
          · have : ne l.disc = true := by rw [e] at ha; exact ha
            simp [conD, h, e, this, hu, LinkD.set, LinkD.put]
          · simp [conD, h, e, LinkD.set, LinkD.put]
        · have hne : o.kind ≠ 19 := by
            intro e
            simp [unfitB, e] at hu
          simp [conD, hne]

def lmru (nak : Bool) : Lens nak Int := ⟨LinkD.mru, nz, conI nak 1, law_mru nak⟩
def lmagic (nak : Bool) : Lens nak Int := ⟨LinkD.magic, nz, conI nak 5, law_magic nak⟩
def lmrru (nak : Bool) : Lens nak Int := ⟨LinkD.mrru, nz, conI nak 17, law_mrru nak⟩
def lnum (nak : Bool) : Lens nak Int := ⟨LinkD.num, nz, conI nak 23, law_num nak⟩
def lshort (nak : Bool) : Lens nak Bool := ⟨LinkD.short, yes, conS nak, law_short nak⟩
def ldisc (nak : Bool) : Lens nak ByteArray := ⟨LinkD.disc, ne, conD nak, law_disc nak⟩

theorem learn_twice (nak : Bool) (os : List OptD) (l : LinkD) : (l.learnAll nak os).learnAll nak os = l.learnAll nak os :=
  link_ext ((lmru nak).twice os l) ((lmagic nak).twice os l) ((lmrru nak).twice os l) ((lshort nak).twice os l) ((ldisc nak).twice os l) ((lnum nak).twice os l)

theorem conI_1 {nak : Bool} {o : OptD} {v : Int} (h : conI nak 1 o = some v) : v = 0 ∨ (128 ≤ v ∧ v ≤ 1500) := by
  unfold conI at h
  split at h
  · next hc =>
    have hk : o.kind = 1 := by simpa using (Bool.and_eq_true_iff.1 hc).2
    split at h
    · split at h
      · cases h
      · next hu =>
        cases h
        have hu' : unitB (valB o.data) = true := by simpa [unfitB, hk] using hu
        simp only [unitB, Bool.and_eq_true, decide_eq_true_eq] at hu'
        exact .inr hu'
    · cases h; exact .inl rfl
  · cases h
theorem conI_17 {nak : Bool} {o : OptD} {v : Int} (h : conI nak 17 o = some v) : v = 0 ∨ (128 ≤ v ∧ v ≤ 1500) := by
  unfold conI at h
  split at h
  · next hc =>
    have hk : o.kind = 17 := by simpa using (Bool.and_eq_true_iff.1 hc).2
    split at h
    · split at h
      · cases h
      · next hu =>
        cases h
        have hu' : unitB (valB o.data) = true := by simpa [unfitB, hk] using hu
        simp only [unitB, Bool.and_eq_true, decide_eq_true_eq] at hu'
        exact .inr hu'
    · cases h; exact .inl rfl
  · cases h
theorem conI_5 {nak : Bool} {o : OptD} {v : Int} (h : conI nak 5 o = some v) : 0 ≤ v ∧ v ≤ 4294967295 := by
  unfold conI at h
  split at h
  · next hc =>
    have hk : o.kind = 5 := by simpa using (Bool.and_eq_true_iff.1 hc).2
    have hr := (Bool.and_eq_true_iff.1 hc).1
    have hz : o.data.size = 4 := by simp [rightB, sizeK, hk] at hr; omega
    split at h
    · split at h
      · cases h
      · cases h; exact val_range_four hz
    · cases h; omega
  · cases h
theorem conI_23 {nak : Bool} {o : OptD} {v : Int} (h : conI nak 23 o = some v) : 0 ≤ v ∧ v ≤ 65535 := by
  unfold conI at h
  split at h
  · next hc =>
    have hk : o.kind = 23 := by simpa using (Bool.and_eq_true_iff.1 hc).2
    have hr := (Bool.and_eq_true_iff.1 hc).1
    have hz : o.data.size = 2 := by simp [rightB, sizeK, hk] at hr; omega
    split at h
    · split at h
      · cases h
      · cases h; exact val_range_two hz
    · cases h; omega
  · cases h
theorem conD_19 {nak : Bool} {o : OptD} {v : ByteArray} (h : conD nak o = some v) : v.size ≤ 20 := by
  unfold conD at h
  split at h
  · next hc =>
    have hk : o.kind = 19 := by simpa using (Bool.and_eq_true_iff.1 hc).2
    have hr := (Bool.and_eq_true_iff.1 hc).1
    have hz : o.data.size ≤ 20 := by simp [rightB, sizeK, hk] at hr; omega
    split at h
    · cases h; exact hz
    · cases h; decide
  · cases h
theorem step_prop {V : Type} {P : V → Prop} {c : Option V} {x : V} {q : Bool} (hx : P x) (hc : ∀ v, c = some v → P v) : P (pick1 c q x) := by
  cases c with
  | none => exact hx
  | some v =>
    cases q with
    | false => exact hx
    | true => exact hc v rfl
theorem may_learn1 {nak : Bool} {l : LinkD} (o : OptD) (h : l.may = true) : (l.learn1 nak o).may = true := by
  rw [may_iff] at h ⊢
  refine ⟨?_, ?_, ?_, ?_, ?_⟩
  · rw [law_mru]; exact step_prop (P := fun v => v = 0 ∨ (128 ≤ v ∧ v ≤ 1500)) h.mru (fun v => conI_1)
  · rw [law_mrru]; exact step_prop (P := fun v => v = 0 ∨ (128 ≤ v ∧ v ≤ 1500)) h.mrru (fun v => conI_17)
  · rw [law_magic]; exact step_prop (P := fun v => 0 ≤ v ∧ v ≤ 4294967295) h.magic (fun v => conI_5)
  · rw [law_disc]; exact step_prop (P := fun v : ByteArray => v.size ≤ 20) h.disc (fun v => conD_19)
  · rw [law_num]; exact step_prop (P := fun v => 0 ≤ v ∧ v ≤ 65535) h.num (fun v => conI_23)
theorem may_learnAll {nak : Bool} : ∀ (os : List OptD) {l : LinkD}, l.may = true → (l.learnAll nak os).may = true
  | [], l, h => h
  | o :: os, l, h => may_learnAll os (may_learn1 o h)
theorem learnD_nil {l : LinkD} {code : Int} (h : l.may = true) (hc : code = 3 ∨ code = 4) : learnD l code [] = (l, 0) := by
  unfold learnD
  rw [h]
  rcases hc with rfl | rfl <;> rfl
theorem learnD_yes {l : LinkD} (nak : Bool) (os : List OptD) (h : l.may = true) : learnD l (if nak then 3 else 4) os = (l.learnAll nak os, 0) := by
  unfold learnD
  rw [h]
  cases nak <;> rfl
theorem learnD_no {l : LinkD} (code : Int) (os : List OptD) (h : l.may = false) : learnD l code os = (zeroL, 1400) := by
  unfold learnD
  rw [h]
  rfl
end Go.Proofs.YthlfghheciamcaaDoor
