/-
  A region that draws its order, walked along a schedule: some operations yield one value in every world of a universe (they read what no operation of the region writes, or make new memory), the others (calls that write or whose answer is open, stores) come one by one, each when it alone is ready.
  Conditions: none (general lemmas, over any program).
-/
import Derived.Test.YthlfghheciamcaaDoorR
import Derived.Test.YthlfghheciamcaaDoorP
namespace Go.Proofs.YthlfghheciamcaaDoor
set_option linter.unusedVariables false
open Go.RowKit

section
variable {P : Program} {ops : Array Oper} {md : Region.Mode} {Z : Type} {pr : Z → World}

/-- a class of worlds within the universe that new memory does not leave -/
structure Okay (pr : Z → World) (C : World → Prop) : Prop where
  sub : ∀ w, C w → ∃ z, pr z = w
  closed : ∀ w w', C w → Below w.heap.size w w' → C w'

/-- what is asked of an operation that turns the world -/
def effUpon (P : Program) (next : Value → World → Prop) : Result Next → Prop
  | .ok (.value u) w' => next u w'
  | .ok .skip w' => next undef w'
  | .ok (.enter f args) w' => Calls P f args w' fun e w'' => ∃ u, e = .returned u ∧ next u w''
  | _ => False
theorem effUpon_value (next : Value → World → Prop) (u : Value) (w : World) : effUpon P next (.ok (.value u) w) = next u w := rfl
theorem effUpon_skip (next : Value → World → Prop) (w : World) : effUpon P next (.ok .skip w) = next undef w := rfl
theorem effUpon_enter (next : Value → World → Prop) (f : FuncId) (args : Array Value) (w : World) : effUpon P next (.ok (.enter f args) w) = Calls P f args w (fun e w'' => ∃ u, e = .returned u ∧ next u w'') := rfl
theorem effUpon_mono {next next' : Value → World → Prop} (h : ∀ u w, next u w → next' u w) {r : Result Next} (hr : effUpon P next r) : effUpon P next' r := by
  cases r with
  | ok n w' =>
    cases n <;> simp only [effUpon] at hr ⊢
    · exact h _ _ hr
    · exact h _ _ hr
    · exact hr.mono fun e w'' ⟨u, he, hn⟩ => ⟨u, he, h _ _ hn⟩
  | halt x w' => exact hr

def effB (P : Program) (pr : Z → World) (o : Oper) (a : Act) (C : World → Prop) (K : (World → Prop) → Act → Prop) : Prop :=
  ∀ w, C w → effUpon P (fun u w' => ∃ C', Okay pr C' ∧ C' w' ∧ K C' (a.put o.dst u)) ((execOp a.eval o).run P w)

def xOp (P : Program) (ops : Array Oper) (pr : Z → World) (i : Nat) (K : (World → Prop) → Act → Prop) (C : World → Prop) (a : Act) : Prop :=
  match ops[i]? with
  | none => K C a
  | some o => if Region.wanted o (yielded ops a.tmps) then (quietB P pr o a (K C) ∨ effB P pr o a C K) else K C (a.put o.dst undef)

theorem xOp_mono {i : Nat} {a : Act} {C : World → Prop} {K K' : (World → Prop) → Act → Prop} (h : ∀ C a, K C a → K' C a) (hh : xOp P ops pr i K C a) : xOp P ops pr i K' C a := by
  unfold xOp at *
  split
  · exact h _ _ (by simpa [*] using hh)
  · rename_i o ho
    simp only [ho] at hh
    split
    · rename_i hw; simp only [hw, if_true] at hh
      rcases hh with ⟨v, h1, h2⟩ | h1
      · exact .inl ⟨v, h1, h _ _ h2⟩
      · exact .inr fun w hw' => effUpon_mono (fun u w' ⟨C', h3, h4, h5⟩ => ⟨C', h3, h4, h _ _ h5⟩) (h1 w hw')
    · rename_i hw; simp only [hw] at hh; exact h _ _ hh

def wpX (P : Program) (md : Region.Mode) (ops : Array Oper) (pr : Z → World) (Q : (World → Prop) → Act → Prop) : Nat → Array Bool → (World → Prop) → Act → Prop
  | 0, listed, C, a => Region.ready md ops listed = [] ∧ Q C a
  | fuel + 1, listed, C, a =>
    (Region.ready md ops listed = [] → Q C a) ∧
    ∀ i ∈ Region.ready md ops listed, xOp P ops pr i (wpX P md ops pr Q fuel (listed.setIfInBounds i true)) C a

theorem wpOp_of_xOp {i : Nat} {a : Act} {C : World → Prop} {K : (World → Prop) → Act → Prop} {K' : Act → World → Prop} {Q' : Exit → Act → World → Prop} {w : World}
    (hO : Okay pr C) (hC : C w) (h : ∀ C a w', Okay pr C → C w' → K C a → K' a w') (hh : xOp P ops pr i K C a) : wpOp P ops Q' i K' a w := by
  unfold xOp at hh
  unfold wpOp
  split
  · rename_i ho; simp only [ho] at hh; exact h _ _ _ hO hC hh
  · rename_i o ho
    simp only [ho] at hh
    split
    · rename_i hw; simp only [hw, if_true] at hh
      refine .inl ?_
      rcases hh with ⟨v, h1, h2⟩ | h1
      · obtain ⟨z, hzw⟩ := hO.sub w hC
        have h3 := h1 z
        rw [hzw] at h3
        unfold Oper.quietAt at h3
        unfold Oper.wp
        generalize (execOp a.eval o).run P w = r at *
        cases r with
        | ok n w' =>
          cases n <;> simp only [Oper.quietUpon] at h3 <;> simp only [Oper.upon]
          case value u =>
            obtain ⟨e1, e2⟩ := h3
            rw [e1, e2]
            exact h _ _ _ hO hC h2
          case skip =>
            obtain ⟨e1, e2⟩ := h3
            rw [e1, ← e2]
            exact h _ _ _ hO hC h2
          case enter f args =>
            obtain ⟨e1, hc⟩ := h3
            rw [e1]
            exact hc.mono fun e w'' ⟨he, hw''⟩ => by subst he; exact h _ _ _ hO (hO.closed _ _ hC hw'') h2
        | halt x w' => simp only [Oper.quietUpon] at h3
      · have h3 := h1 w hC
        unfold Oper.wp
        generalize (execOp a.eval o).run P w = r at *
        cases r with
        | ok n w' =>
          cases n <;> simp only [effUpon] at h3 <;> simp only [Oper.upon]
          case value u =>
            obtain ⟨C', h4, h5, h6⟩ := h3
            exact h _ _ _ h4 h5 h6
          case skip =>
            obtain ⟨C', h4, h5, h6⟩ := h3
            exact h _ _ _ h4 h5 h6
          case enter f args =>
            exact h3.mono fun e w'' ⟨u, he, C', h4, h5, h6⟩ => by subst he; exact h _ _ _ h4 h5 h6
        | halt x w' => simp only [effUpon] at h3
    · rename_i hw; simp only [hw] at hh; exact h _ _ _ hO hC hh

theorem wpAny_of_x {Q : (World → Prop) → Act → Prop} {Q' : Exit → Act → World → Prop} (hQ : ∀ C a w, C w → Q C a → Q' .normal a w) :
    ∀ (fuel : Nat) (listed : Array Bool) (C : World → Prop) (a : Act) (w : World), Okay pr C → C w → wpX P md ops pr Q fuel listed C a → wpAny P md ops Q' fuel listed a w
  | 0, _, _, _, _, _, hw, h => ⟨h.1, hQ _ _ _ hw h.2⟩
  | fuel + 1, _, _, _, _, hO, hw, h => ⟨fun h0 => hQ _ _ _ hw (h.1 h0), fun i hi => wpOp_of_xOp hO hw (fun C' a' w' hO' hw' => wpAny_of_x hQ fuel _ C' a' w' hO' hw') (h.2 i hi)⟩

theorem YieldsB.xOp {i : Nat} {o : Oper} {v : Value} {a : Act} {C : World → Prop} (hi : ops[i]? = some o) (hy : YieldsB P ops pr o v a) {K : (World → Prop) → Act → Prop} (h : K C (a.put o.dst v)) : xOp P ops pr i K C a := by
  unfold Proofs.YthlfghheciamcaaDoor.xOp
  simp only [hi]
  rcases hy with ⟨hw, hv⟩ | ⟨hw, rfl⟩
  · simp only [hw, if_true]; exact .inl ⟨v, hv, h⟩
  · simp only [hw, Bool.false_eq_true, if_false]; exact h

theorem xOp_put {j : Nat} {oi oj : Oper} {v : Value} {C : World → Prop} (hj : ops[j]? = some oj) (hap : oi.apart ops oj = true)
    (hsi : ∀ cs b, oi.op ≠ .select cs b) (hsj : ∀ cs b, oj.op ≠ .select cs b) {K : (World → Prop) → Act → Prop} {a : Act}
    (hy : YieldsB P ops pr oi v a) (h : xOp P ops pr j K C (a.put oi.dst v)) :
    xOp P ops pr j (fun C' a' => YieldsB P ops pr oi v a' ∧ K C' (a'.put oi.dst v)) C a := by
  obtain ⟨h1, h2, h3⟩ := Oper.apart_spec hap
  have keep : ∀ (a : Act), YieldsB P ops pr oi v a → ∀ u, YieldsB P ops pr oi v (a.put oj.dst u) := fun a hy u =>
    hy.of_same (execOp_put oi hsi a oj.dst u h3) (wanted_put oi a oj.dst u h3)
  unfold Proofs.YthlfghheciamcaaDoor.xOp at *
  simp only [hj] at *
  rw [wanted_put oj a oi.dst v h1] at h
  split
  · rename_i hw
    simp only [hw, if_true] at h
    rcases h with ⟨u, hu, hn⟩ | hwr
    · refine .inl ⟨u, fun z => ?_, keep a hy u, by rw [← Act.put_comm a v u h2]; exact hn⟩
      have := hu z
      unfold Oper.quietAt at *
      rwa [execOp_put oj hsj a oi.dst v h1] at this
    · refine .inr fun w hw' => ?_
      have := hwr w hw'
      rw [execOp_put oj hsj a oi.dst v h1] at this
      exact effUpon_mono (fun u w' ⟨C', h4, h5, h6⟩ => ⟨C', h4, h5, keep a hy u, by rw [← Act.put_comm a v u h2]; exact h6⟩) this
  · rename_i hw
    simp only [hw] at h
    exact ⟨keep a hy _, by rw [← Act.put_comm a v undef h2]; exact h⟩

theorem wpX_first {Q : (World → Prop) → Act → Prop} {i : Nat} {oi : Oper} {v : Value} (hi : ops[i]? = some oi) (hsel : ∀ (j : Nat) (o : Oper) cs b, ops[j]? = some o → o.op ≠ .select cs b) :
    ∀ (fuel : Nat) (listed : Array Bool) (C : World → Prop) (a : Act),
      (∀ j oj, ops[j]? = some oj → j ≠ i → listed.getD j true = false → (∀ e ∈ oj.after, Region.binds md e = true → e.on ≠ i) → oi.apart ops oj = true) →
      i ∈ Region.ready md ops listed → YieldsB P ops pr oi v a →
      wpX P md ops pr Q fuel (listed.setIfInBounds i true) C (a.put oi.dst v) → wpX P md ops pr Q (fuel + 1) listed C a := by
  intro fuel
  induction fuel with
  | zero =>
    intro listed C a _ hr hy H
    refine ⟨fun h => (by rw [h] at hr; cases hr), fun j hj => ?_⟩
    by_cases hji : j = i
    · subst hji; exact hy.xOp hi H
    · have := ready_mono hj hji
      rw [H.1] at this
      cases this
  | succ fuel ih =>
    intro listed C a hfree hr hy H
    refine ⟨fun h => (by rw [h] at hr; cases hr), fun j hj => ?_⟩
    by_cases hji : j = i
    · subst hji; exact hy.xOp hi H
    · have h1 := H.2 j (ready_mono hj hji)
      obtain ⟨hjun, oj, hoj, hall⟩ := mem_ready.1 hj
      have hnot : ∀ e ∈ oj.after, Region.binds md e = true → e.on ≠ i := fun e he hb heq => by
        have h1 := hall e he hb
        have h0 := (mem_ready.1 hr).1
        rw [heq] at h1
        rcases Nat.lt_or_ge i listed.size with h' | h'
        · simp [h'] at h0 h1; rw [h0] at h1; cases h1
        · simp [Array.getElem?_eq_none h'] at h1
      have h2 := xOp_put hoj (hfree j oj hoj hji hjun hnot) (fun cs b => hsel i oi cs b hi) (fun cs b => hsel j oj cs b hoj) hy h1
      have hfree' : ∀ k ok, ops[k]? = some ok → k ≠ i → (listed.setIfInBounds j true).getD k true = false →
          (∀ e ∈ ok.after, Region.binds md e = true → e.on ≠ i) → oi.apart ops ok = true := fun k ok hk hki hun hno => by
        refine hfree k ok hk hki ?_ hno
        by_cases hjk : j = k
        · subst hjk; exact hjun
        · rw [getD_set_ne true hjk] at hun; exact hun
      refine xOp_mono (fun C' a' h3 => ih (listed.setIfInBounds j true) C' a' hfree' (ready_mono hr (Ne.symm hji)) h3.1 ?_) h2
      rw [Array.setIfInBounds_comm _ _ hji]
      exact h3.2

/-- the schedule: the operations' places, in an order that the region allows; false: it yields one value in every world; true: it turns the world, and is ready alone -/
def schedB (md : Region.Mode) (ops : Array Oper) : List (Nat × Bool) → Array Bool → Bool
  | [], listed => (Region.ready md ops listed).isEmpty
  | (i, eff) :: is, listed => (if eff then decide (Region.ready md ops listed = [i]) else (Region.ready md ops listed).contains i && Region.free md ops listed i) && schedB md ops is (listed.setIfInBounds i true)

def wpSched (P : Program) (ops : Array Oper) (pr : Z → World) (Q : (World → Prop) → Act → Prop) : List (Nat × Bool) → (World → Prop) → Act → Prop
  | [], C, a => Q C a
  | (i, false) :: is, C, a => match ops[i]? with
    | none => False
    | some o => if Region.wanted o (yielded ops a.tmps) then quietB P pr o a (wpSched P ops pr Q is C) else wpSched P ops pr Q is C (a.put o.dst undef)
  | (i, true) :: is, C, a => match ops[i]? with
    | none => False
    | some o => Region.wanted o (yielded ops a.tmps) = true ∧ effB P pr o a C (wpSched P ops pr Q is)

theorem wpX_sched {Q : (World → Prop) → Act → Prop} (hsel : Region.noSelect ops = true) : ∀ (is : List (Nat × Bool)) (listed : Array Bool) (C : World → Prop) (a : Act),
    schedB md ops is listed = true → wpSched P ops pr Q is C a → wpX P md ops pr Q is.length listed C a
  | [], _, _, _, hB, h => ⟨by simpa [schedB] using hB, h⟩
  | (i, false) :: is, listed, C, a, hB, h => by
    simp only [schedB, Bool.and_eq_true, Bool.false_eq_true, if_false] at hB
    obtain ⟨⟨hr, hf⟩, hB'⟩ := hB
    unfold wpSched at h
    split at h
    · exact h.elim
    · rename_i o ho
      have hy : ∃ v, YieldsB P ops pr o v a ∧ wpSched P ops pr Q is C (a.put o.dst v) := by
        split at h
        · rename_i hw
          obtain ⟨v, h1, h2⟩ := h
          exact ⟨v, .inl ⟨hw, h1⟩, h2⟩
        · rename_i hw
          exact ⟨undef, .inr ⟨by simpa using hw, rfl⟩, h⟩
      obtain ⟨v, hy, hK⟩ := hy
      exact wpX_first ho (Region.noSelect_spec hsel) is.length listed C a (Region.free_spec ho hf) (by simpa using hr) hy (wpX_sched hsel is _ C _ hB' hK)
  | (i, true) :: is, listed, C, a, hB, h => by
    simp only [schedB, Bool.and_eq_true, decide_eq_true_eq, if_true] at hB
    obtain ⟨hr, hB'⟩ := hB
    unfold wpSched at h
    split at h
    · exact h.elim
    · rename_i o ho
      refine ⟨fun h0 => (by rw [hr] at h0; cases h0), fun j hj => ?_⟩
      rw [hr] at hj
      have hji : j = i := by simpa using hj
      subst hji
      unfold xOp
      simp only [ho]
      rw [if_pos h.1]
      exact .inr fun w hw => effUpon_mono (fun u w' ⟨C', h4, h5, h6⟩ => ⟨C', h4, h5, wpX_sched hsel is _ C' _ hB' h6⟩) (h.2 w hw)

theorem sched_nil {Q : (World → Prop) → Act → Prop} {C : World → Prop} {a : Act} (h : Q C a) : wpSched P ops pr Q [] C a := h
theorem sched_quiet {Q : (World → Prop) → Act → Prop} {C : World → Prop} {a : Act} {i : Nat} {is : List (Nat × Bool)} {o : Oper} (ho : ops[i]? = some o)
    (h : ∀ K : Act → Prop, (∀ a, wpSched P ops pr Q is C a → K a) → if Region.wanted o (yielded ops a.tmps) then quietB P pr o a K else K (a.put o.dst undef)) : wpSched P ops pr Q ((i, false) :: is) C a := by
  unfold wpSched
  simp only [ho]
  exact h _ fun _ h => h
theorem sched_eff {Q : (World → Prop) → Act → Prop} {C : World → Prop} {a : Act} {i : Nat} {is : List (Nat × Bool)} {o : Oper} (ho : ops[i]? = some o) (hw : Region.wanted o (yielded ops a.tmps) = true)
    (h : ∀ K : (World → Prop) → Act → Prop, (∀ C a, wpSched P ops pr Q is C a → K C a) → ∀ w, C w → effUpon P (fun u w' => ∃ C', Okay pr C' ∧ C' w' ∧ K C' (a.put o.dst u)) ((execOp a.eval o).run P w)) :
    wpSched P ops pr Q ((i, true) :: is) C a := by
  unfold wpSched
  simp only [ho]
  exact ⟨hw, h _ fun _ _ h => h⟩

/-- A region that draws its order, along a schedule. -/
theorem wp_region_sched {id : Nat} {Q : Exit → Act → World → Prop} {a : Act} {w : World} {l : List Oper} (is : List (Nat × Bool)) (pr : Z → World) (C : World → Prop) (hO : Okay pr C)
    (hm : P.follows .mixedOrders = true) (hlen : is.length = l.length) (hsel : Region.noSelect l.toArray = true) (hB : schedB .any l.toArray is (Array.replicate l.toArray.size false) = true) (h0 : C w.drew)
    (h : wpSched P l.toArray pr (fun C a' => ∀ w', C w' → Q .normal a' w') is C a) : (Code.region id l.toArray true).wp P Q a w := by
  refine wp_region_any hm ?_
  have := wpX_sched (md := .any) hsel is (Array.replicate l.toArray.size false) C a hB h
  rw [hlen, show l.length = l.toArray.size by simp] at this
  exact wpAny_of_x (fun C a w hw hq => hq w hw) _ _ _ _ _ hO h0 this
end

attribute [go_sem] effUpon_value effUpon_skip effUpon_enter
attribute [irreducible] wpSched

theorem nearC_self (w : World) : nearC w w := ⟨Near.self w, rfl⟩
theorem okay_near (w : World) : Okay (Near.v (w := w)) (nearC w) :=
  ⟨fun w' ⟨x, h⟩ => ⟨x, h.symm⟩, fun w1 w2 ⟨x, h⟩ hb => by subst h; exact ⟨⟨w2, below_step x hb⟩, rfl⟩⟩
theorem okay_near_of {w w1 : World} (h : Below w.heap.size w w1) : Okay (Near.v (w := w)) (nearC w1) :=
  ⟨fun w' ⟨x, hx⟩ => ⟨⟨w', by subst hx; exact below_trans' h h.size x.below⟩, rfl⟩, (okay_near w1).closed⟩
theorem okay_turned {w w1 : World} {g : Nat} (h : w.grownBy w1 (some g)) : Okay (Turned.v (w := w) (g := g)) (nearC w1) :=
  ⟨fun w' ⟨x, hx⟩ => ⟨⟨w', by
    subst hx
    exact ⟨x.below.os.trans h.os, x.below.tape.trans h.tape, x.below.output.trans h.output, Nat.le_trans h.size x.below.size, fun i hi hne => (x.below.block i (Nat.lt_of_lt_of_le hi h.size)).trans (h.block i hi hne)⟩⟩, rfl⟩, (okay_near w1).closed⟩
theorem okay_world (w1 : World) : Okay (fun w : World => w) (nearC w1) := ⟨fun w' _ => ⟨w', rfl⟩, (okay_near w1).closed⟩
end Go.Proofs.YthlfghheciamcaaDoor
