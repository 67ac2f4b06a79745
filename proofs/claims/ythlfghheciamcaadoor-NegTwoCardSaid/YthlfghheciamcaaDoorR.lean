/-
  A region that draws its order and writes: its first operations only read (in every world of a class, before and behind the writes) or make new memory; the others come in the order of the text, and write. One walk of the order of the text serves every order.
  Conditions: none (general lemmas, over any program).
-/
import Derived.Test.YthlfghheciamcaaDoorQ
namespace Go.Proofs.YthlfghheciamcaaDoor
set_option linter.unusedVariables false
open Go.RowKit

section
variable {P : Program} {ops : Array Oper} {md : Region.Mode} {Z : Type} {pr : Z → World} {D : Nat → World → Prop}

/-- ONE VALUE, in every world of the class; a call makes new memory alone. -/
def quietB (P : Program) (pr : Z → World) (o : Oper) (a : Act) (next : Act → Prop) : Prop :=
  ∃ v, (∀ z : Z, o.quietAt P a (fun w' => Below (pr z).heap.size (pr z) w') (pr z) v) ∧ next (a.put o.dst v)

/-- it writes: from the class of one moment into that of the next -/
def writesB (P : Program) (D : Nat → World → Prop) (o : Oper) (a : Act) (t : Nat) : Prop :=
  ∀ w, D t w → ∃ w', (execOp a.eval o).run P w = .ok .skip w' ∧ D (t + 1) w'

def wpHead (P : Program) (ops : Array Oper) (pr : Z → World) (Q : Act → Prop) : List Oper → Act → Prop
  | [], a => Q a
  | o :: rest, a => if Region.wanted o (yielded ops a.tmps) then quietB P pr o a (wpHead P ops pr Q rest) else wpHead P ops pr Q rest (a.put o.dst undef)

def wpTail (P : Program) (ops : Array Oper) (pr : Z → World) (D : Nat → World → Prop) (Q : Nat → Act → Prop) : List Oper → Nat → Act → Prop
  | [], t, a => Q t a
  | o :: rest, t, a => if Region.wanted o (yielded ops a.tmps) then (quietB P pr o a (wpTail P ops pr D Q rest t) ∨ (writesB P D o a t ∧ wpTail P ops pr D Q rest (t + 1) (a.put o.dst undef))) else wpTail P ops pr D Q rest t (a.put o.dst undef)

theorem wpHead_nil {Q : Act → Prop} {a : Act} (h : Q a) : wpHead P ops pr Q [] a := h
theorem wpHead_step {Q : Act → Prop} {a : Act} {o : Oper} {rest : List Oper}
    (h : ∀ K : Act → Prop, (∀ a, wpHead P ops pr Q rest a → K a) → if Region.wanted o (yielded ops a.tmps) then quietB P pr o a K else K (a.put o.dst undef)) : wpHead P ops pr Q (o :: rest) a :=
  h _ (fun _ h => h)
theorem wpHead_pass {Q : Act → Prop} {a : Act} {o : Oper} {rest : List Oper} (hw : Region.wanted o (yielded ops a.tmps) = false) (hp : a.put o.dst undef = a) (h : wpHead P ops pr Q rest a) : wpHead P ops pr Q (o :: rest) a := by
  unfold wpHead; rw [if_neg (by rw [hw]; decide), hp]; exact h
theorem wpTail_nil {Q : Nat → Act → Prop} {a : Act} {t : Nat} (h : Q t a) : wpTail P ops pr D Q [] t a := h
theorem wpTail_write {Q : Nat → Act → Prop} {a : Act} {t : Nat} {o : Oper} {rest : List Oper} (hg : o.guard = none) (hw : writesB P D o a t) (h : wpTail P ops pr D Q rest (t + 1) (a.put o.dst undef)) :
    wpTail P ops pr D Q (o :: rest) t a := by
  unfold wpTail; rw [if_pos (by simp [Region.wanted, hg])]; exact .inr ⟨hw, h⟩
theorem wpTail_quiet {Q : Nat → Act → Prop} {a : Act} {t : Nat} {o : Oper} {rest : List Oper}
    (h : ∀ K : Act → Prop, (∀ a, wpTail P ops pr D Q rest t a → K a) → if Region.wanted o (yielded ops a.tmps) then quietB P pr o a K else K (a.put o.dst undef)) : wpTail P ops pr D Q (o :: rest) t a := by
  unfold wpTail
  have := h (wpTail P ops pr D Q rest t) (fun _ h => h)
  split
  · rename_i hw; rw [if_pos hw] at this; exact .inl this
  · rename_i hw; rw [if_neg hw] at this; exact this

def mixOp (P : Program) (ops : Array Oper) (pr : Z → World) (D : Nat → World → Prop) (i : Nat) (K : Nat → Act → Prop) (t : Nat) (a : Act) : Prop :=
  match ops[i]? with
  | none => K t a
  | some o => if Region.wanted o (yielded ops a.tmps) then (quietB P pr o a (K t) ∨ (writesB P D o a t ∧ K (t + 1) (a.put o.dst undef))) else K t (a.put o.dst undef)

theorem mixOp_mono {i : Nat} {a : Act} {t : Nat} {K K' : Nat → Act → Prop} (h : ∀ t a, K t a → K' t a) (hh : mixOp P ops pr D i K t a) : mixOp P ops pr D i K' t a := by
  unfold mixOp at *
  split
  · exact h _ _ (by simpa [*] using hh)
  · rename_i o ho
    simp only [ho] at hh
    split
    · rename_i hw; simp only [hw, if_true] at hh
      rcases hh with ⟨v, h1, h2⟩ | ⟨h1, h2⟩
      · exact .inl ⟨v, h1, h _ _ h2⟩
      · exact .inr ⟨h1, h _ _ h2⟩
    · rename_i hw; simp only [hw] at hh; exact h _ _ hh

def wpAnyM (P : Program) (md : Region.Mode) (ops : Array Oper) (pr : Z → World) (D : Nat → World → Prop) (Q : Nat → Act → Prop) : Nat → Array Bool → Nat → Act → Prop
  | 0, listed, t, a => Region.ready md ops listed = [] ∧ Q t a
  | fuel + 1, listed, t, a =>
    (Region.ready md ops listed = [] → Q t a) ∧
    ∀ i ∈ Region.ready md ops listed, mixOp P ops pr D i (wpAnyM P md ops pr D Q fuel (listed.setIfInBounds i true)) t a

theorem wpOp_of_mixOp (hz : ∀ t w, D t w → ∃ z, pr z = w) (hcl : ∀ t w w', D t w → Below w.heap.size w w' → D t w') {i : Nat} {a : Act} {t : Nat} {K : Nat → Act → Prop} {K' : Act → World → Prop} {Q' : Exit → Act → World → Prop} {w : World}
    (hC : D t w) (h : ∀ t a w', D t w' → K t a → K' a w') (hh : mixOp P ops pr D i K t a) : wpOp P ops Q' i K' a w := by
  unfold mixOp at hh
  unfold wpOp
  split
  · rename_i ho; simp only [ho] at hh; exact h _ _ _ hC hh
  · rename_i o ho
    simp only [ho] at hh
    split
    · rename_i hw; simp only [hw, if_true] at hh
      refine .inl ?_
      rcases hh with ⟨v, h1, h2⟩ | ⟨h1, h2⟩
      · obtain ⟨z, hzw⟩ := hz t w hC
        have h3 := h1 z
        rw [hzw] at h3
        unfold Oper.quietAt at h3
        unfold Oper.wp
        generalize (execOp a.eval o).run P w = r at *
        cases r with
        | ok n w' =>
          cases n <;> simp only [Oper.quietUpon] at h3 <;> simp only [Oper.upon]
          case value u =>
            obtain ⟨e1, e2⟩ := h3
            rw [e1, e2]
            exact h _ _ _ hC h2
          case skip =>
            obtain ⟨e1, e2⟩ := h3
            rw [e1, ← e2]
            exact h _ _ _ hC h2
          case enter f args =>
            obtain ⟨e1, hc⟩ := h3
            rw [e1]
            exact hc.mono fun e w'' ⟨he, hw''⟩ => by subst he; exact h _ _ _ (hcl _ _ _ hC hw'') h2
        | halt x w' => simp only [Oper.quietUpon] at h3
      · obtain ⟨w', hr, hD⟩ := h1 w hC
        unfold Oper.wp
        rw [hr, Oper.upon_skip]
        exact h _ _ _ hD h2
    · rename_i hw; simp only [hw] at hh; exact h _ _ _ hC hh

theorem wpAny_of_mix (hz : ∀ t w, D t w → ∃ z, pr z = w) (hcl : ∀ t w w', D t w → Below w.heap.size w w' → D t w') {Q : Nat → Act → Prop} {Q' : Exit → Act → World → Prop} (hQ : ∀ t a w, D t w → Q t a → Q' .normal a w) :
    ∀ (fuel : Nat) (listed : Array Bool) (t : Nat) (a : Act) (w : World), D t w → wpAnyM P md ops pr D Q fuel listed t a → wpAny P md ops Q' fuel listed a w
  | 0, _, _, _, _, hw, h => ⟨h.1, hQ _ _ _ hw h.2⟩
  | fuel + 1, _, _, _, _, hw, h => ⟨fun h0 => hQ _ _ _ hw (h.1 h0), fun i hi => wpOp_of_mixOp hz hcl hw (fun t' a' w' hw' => wpAny_of_mix hz hcl hQ fuel _ t' a' w' hw') (h.2 i hi)⟩

def YieldsB (P : Program) (ops : Array Oper) (pr : Z → World) (o : Oper) (v : Value) (a : Act) : Prop :=
  (Region.wanted o (yielded ops a.tmps) = true ∧ ∀ z : Z, o.quietAt P a (fun w' => Below (pr z).heap.size (pr z) w') (pr z) v) ∨
  (Region.wanted o (yielded ops a.tmps) = false ∧ v = undef)

theorem YieldsB.mixOp {i : Nat} {o : Oper} {v : Value} {a : Act} {t : Nat} (hi : ops[i]? = some o) (hy : YieldsB P ops pr o v a) {K : Nat → Act → Prop} (h : K t (a.put o.dst v)) : mixOp P ops pr D i K t a := by
  unfold Proofs.YthlfghheciamcaaDoor.mixOp
  simp only [hi]
  rcases hy with ⟨hw, hv⟩ | ⟨hw, rfl⟩
  · simp only [hw, if_true]; exact .inl ⟨v, hv, h⟩
  · simp only [hw, Bool.false_eq_true, if_false]; exact h

theorem YieldsB.of_same {o : Oper} {v : Value} {a a' : Act} (hy : YieldsB P ops pr o v a) (he : execOp a'.eval o = execOp a.eval o)
    (hw : Region.wanted o (yielded ops a'.tmps) = Region.wanted o (yielded ops a.tmps)) : YieldsB P ops pr o v a' := by
  unfold YieldsB Oper.quietAt at *
  rw [he, hw]
  exact hy

theorem mixOp_put {j : Nat} {oi oj : Oper} {v : Value} (hj : ops[j]? = some oj) (hap : oi.apart ops oj = true)
    (hsi : ∀ cs b, oi.op ≠ .select cs b) (hsj : ∀ cs b, oj.op ≠ .select cs b) {K : Nat → Act → Prop} {a : Act} {t : Nat}
    (hy : YieldsB P ops pr oi v a) (h : mixOp P ops pr D j K t (a.put oi.dst v)) :
    mixOp P ops pr D j (fun t' a' => YieldsB P ops pr oi v a' ∧ K t' (a'.put oi.dst v)) t a := by
  obtain ⟨h1, h2, h3⟩ := Oper.apart_spec hap
  have keep : ∀ (a : Act), YieldsB P ops pr oi v a → ∀ u, YieldsB P ops pr oi v (a.put oj.dst u) := fun a hy u =>
    hy.of_same (execOp_put oi hsi a oj.dst u h3) (wanted_put oi a oj.dst u h3)
  unfold Proofs.YthlfghheciamcaaDoor.mixOp at *
  simp only [hj] at *
  rw [wanted_put oj a oi.dst v h1] at h
  split
  · rename_i hw
    simp only [hw, if_true] at h
    rcases h with ⟨u, hu, hn⟩ | ⟨hwr, hn⟩
    · refine .inl ⟨u, fun z => ?_, keep a hy u, by rw [← Act.put_comm a v u h2]; exact hn⟩
      have := hu z
      unfold Oper.quietAt at *
      rwa [execOp_put oj hsj a oi.dst v h1] at this
    · refine .inr ⟨fun w hw' => ?_, keep a hy _, by rw [← Act.put_comm a v undef h2]; exact hn⟩
      have := hwr w hw'
      rwa [execOp_put oj hsj a oi.dst v h1] at this
  · rename_i hw
    simp only [hw] at h
    exact ⟨keep a hy _, by rw [← Act.put_comm a v undef h2]; exact h⟩

theorem wpAnyM_first {Q : Nat → Act → Prop} {i : Nat} {oi : Oper} {v : Value} (hi : ops[i]? = some oi) (hsel : ∀ (j : Nat) (o : Oper) cs b, ops[j]? = some o → o.op ≠ .select cs b) :
    ∀ (fuel : Nat) (listed : Array Bool) (t : Nat) (a : Act),
      (∀ j oj, ops[j]? = some oj → j ≠ i → listed.getD j true = false → (∀ e ∈ oj.after, Region.binds md e = true → e.on ≠ i) → oi.apart ops oj = true) →
      i ∈ Region.ready md ops listed → YieldsB P ops pr oi v a →
      wpAnyM P md ops pr D Q fuel (listed.setIfInBounds i true) t (a.put oi.dst v) → wpAnyM P md ops pr D Q (fuel + 1) listed t a := by
  intro fuel
  induction fuel with
  | zero =>
    intro listed t a _ hr hy H
    refine ⟨fun h => (by rw [h] at hr; cases hr), fun j hj => ?_⟩
    by_cases hji : j = i
    · subst hji; exact hy.mixOp hi H
    · have := ready_mono hj hji
      rw [H.1] at this
      cases this
  | succ fuel ih =>
    intro listed t a hfree hr hy H
    refine ⟨fun h => (by rw [h] at hr; cases hr), fun j hj => ?_⟩
    by_cases hji : j = i
    · subst hji; exact hy.mixOp hi H
    · have h1 := H.2 j (ready_mono hj hji)
      obtain ⟨hjun, oj, hoj, hall⟩ := mem_ready.1 hj
      have hnot : ∀ e ∈ oj.after, Region.binds md e = true → e.on ≠ i := fun e he hb heq => by
        have h1 := hall e he hb
        have h0 := (mem_ready.1 hr).1
        rw [heq] at h1
        rcases Nat.lt_or_ge i listed.size with h' | h'
        · simp [h'] at h0 h1; rw [h0] at h1; cases h1
        · simp [Array.getElem?_eq_none h'] at h1
      have h2 := mixOp_put hoj (hfree j oj hoj hji hjun hnot) (fun cs b => hsel i oi cs b hi) (fun cs b => hsel j oj cs b hoj) hy h1
      have hfree' : ∀ k ok, ops[k]? = some ok → k ≠ i → (listed.setIfInBounds j true).getD k true = false →
          (∀ e ∈ ok.after, Region.binds md e = true → e.on ≠ i) → oi.apart ops ok = true := fun k ok hk hki hun hno => by
        refine hfree k ok hk hki ?_ hno
        by_cases hjk : j = k
        · subst hjk; exact hjun
        · rw [getD_set_ne true hjk] at hun; exact hun
      refine mixOp_mono (fun t' a' h3 => ih (listed.setIfInBounds j true) t' a' hfree' (ready_mono hr (Ne.symm hji)) h3.1 ?_) h2
      rw [Array.setIfInBounds_comm _ _ hji]
      exact h3.2

theorem wpAnyM_seq {Q : Nat → Act → Prop} : ∀ (l : List Oper) (k : Nat) (listed : Array Bool) (t : Nat) (a : Act), (∀ j, l[j]? = ops[k + j]?) →
    Region.seqB md ops l.length k listed = true → wpTail P ops pr D Q l t a → wpAnyM P md ops pr D Q l.length listed t a
  | [], _, _, _, _, _, hB, h => ⟨by simpa [Region.seqB] using hB, h⟩
  | o :: l, k, listed, t, a, hl, hB, h => by
    have h0 : ops[k]? = some o := by simpa using (hl 0).symm
    simp only [List.length_cons, Region.seqB, Bool.and_eq_true, decide_eq_true_eq] at hB
    refine ⟨fun h1 => (by rw [hB.1] at h1; cases h1), fun i hi => ?_⟩
    rw [hB.1] at hi
    have hik : i = k := by simpa using hi
    subst hik
    have hw : mixOp P ops pr D i (wpTail P ops pr D Q l) t a := by unfold mixOp; simp only [h0]; exact h
    exact mixOp_mono (fun t' a' h' => wpAnyM_seq l (i + 1) _ t' a' (fun j => by have := hl (j + 1); simpa [Nat.add_assoc, Nat.add_comm 1 j] using this) hB.2 h') hw

theorem wpAnyM_lex {Q : Nat → Act → Prop} (hs : Region.noSelect ops = true) (l2 : List Oper) : ∀ (l : List Oper) (k : Nat) (listed : Array Bool) (t : Nat) (a : Act), (∀ j, (l ++ l2)[j]? = ops[k + j]?) →
    Region.lexHead md ops l2.length l.length k listed = true → wpHead P ops pr (fun a' => wpTail P ops pr D Q l2 t a') l a → wpAnyM P md ops pr D Q (l.length + l2.length) listed t a
  | [], k, listed, t, a, hl, hB, h => by
    have := wpAnyM_seq (md := md) (D := D) (Q := Q) l2 k listed t a (by simpa using hl) (by simpa [Region.lexHead] using hB) h
    simpa using this
  | o :: l, k, listed, t, a, hl, hB, h => by
    have h0 : ops[k]? = some o := by simpa using (hl 0).symm
    simp only [List.length_cons, Region.lexHead, Bool.and_eq_true] at hB
    obtain ⟨⟨hr, hf⟩, hB'⟩ := hB
    have hy : ∃ v, YieldsB P ops pr o v a ∧ wpHead P ops pr (fun a' => wpTail P ops pr D Q l2 t a') l (a.put o.dst v) := by
      unfold wpHead at h
      by_cases hw : Region.wanted o (yielded ops a.tmps) = true
      · rw [if_pos hw] at h
        obtain ⟨v, h1, h2⟩ := h
        exact ⟨v, .inl ⟨hw, h1⟩, h2⟩
      · rw [if_neg hw] at h
        exact ⟨undef, .inr ⟨by simpa using hw, rfl⟩, h⟩
    obtain ⟨v, hy, hK⟩ := hy
    rw [show (o :: l).length + l2.length = (l.length + l2.length) + 1 by simp only [List.length_cons]; omega]
    exact wpAnyM_first h0 (Region.noSelect_spec hs) (l.length + l2.length) listed t a (Region.free_spec h0 hf) (by simpa using hr) hy
      (wpAnyM_lex hs l2 l (k + 1) _ t _ (fun j => by have := hl (j + 1); simpa [Nat.add_assoc, Nat.add_comm 1 j] using this) hB' hK)

/-- The Bool over the region: the first n operations are free to come in any order; the others are forced. -/
def mixB (md : Region.Mode) (ops : Array Oper) (n : Nat) : Bool := Region.noSelect ops && decide (n ≤ ops.size) && Region.lexHead md ops (ops.size - n) n 0 (Array.replicate ops.size false)

theorem wp_region_mix {id : Nat} {Q : Exit → Act → World → Prop} {a : Act} {w : World} {l : List Oper} (n : Nat) (pr : Z → World) (D : Nat → World → Prop)
    (hz : ∀ t w, D t w → ∃ z, pr z = w) (hcl : ∀ t w w', D t w → Below w.heap.size w w' → D t w')
    (hm : P.follows .mixedOrders = true) (hB : mixB .any l.toArray n = true) (h0 : D 0 w.drew)
    (h : wpHead P l.toArray pr (fun a' => wpTail P l.toArray pr D (fun t a'' => ∀ w', D t w' → Q .normal a'' w') (l.drop n) 0 a') (l.take n) a) : (Code.region id l.toArray true).wp P Q a w := by
  simp only [mixB, Bool.and_eq_true, decide_eq_true_eq] at hB
  obtain ⟨⟨hsel, hn⟩, hlex⟩ := hB
  have hn' : n ≤ l.length := by simpa using hn
  have htl : (l.take n).length = n := by simp; omega
  have hdl : (l.drop n).length = l.toArray.size - n := by simp
  refine wp_region_any hm ?_
  have := wpAnyM_lex (md := .any) (D := D) (Q := fun t a'' => ∀ w', D t w' → Q .normal a'' w') hsel (l.drop n) (l.take n) 0 (Array.replicate l.toArray.size false) 0 a
    (fun j => by simp [List.take_append_drop]) (by rw [htl, hdl]; exact hlex) h
  rw [htl, hdl, show n + (l.toArray.size - n) = l.toArray.size by omega] at this
  exact wpAny_of_mix hz hcl (fun t a' w' hw' hq => hq w' hw') _ _ _ _ _ h0 this
end

attribute [go_sem] quietB
attribute [irreducible] wpHead wpTail

/-! ### the class: block g alone has turned -/
structure Turned (w : World) (g : Nat) where
  v : World
  grown : w.grownBy v (some g)
instance Turned.inhabited (w : World) (g : Nat) : Nonempty (Turned w g) := ⟨⟨w, World.grownBy.refl w _⟩⟩
theorem Turned.cell {w : World} {g : Nat} {a : Addr} {u : Value} (h : w.cell? a = some u) (hne : a.block ≠ g) : ∀ x : Turned w g, x.v.cell? a = some u :=
  fun x => x.grown.cell h (by simpa using hne)
def TurnedAt (w : World) (g : Nat) (T : TypeId) (c : Nat → Array Value) (t : Nat) (v : World) : Prop := w.grownBy v (some g) ∧ Blk v g T (c t)
theorem turnedAt_pr {w : World} {g : Nat} {T : TypeId} {c : Nat → Array Value} : ∀ t v, TurnedAt w g T c t v → ∃ z : Turned w g, z.v = v := fun _ v h => ⟨⟨v, h.1⟩, rfl⟩
theorem turnedAt_below {w : World} {g : Nat} {T : TypeId} {c : Nat → Array Value} : ∀ t v v', TurnedAt w g T c t v → Below v.heap.size v v' → TurnedAt w g T c t v' := fun _ v v' h hb =>
  ⟨⟨hb.os.trans h.1.os, hb.tape.trans h.1.tape, hb.output.trans h.1.output, Nat.le_trans h.1.size hb.size, fun k hk hne => (hb.block k (Nat.lt_of_lt_of_le hk h.1.size)).trans (h.1.block k hk hne)⟩, Blk.below h.2 hb h.2.lt⟩
end Go.Proofs.YthlfghheciamcaaDoor
