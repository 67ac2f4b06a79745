/-
  A region that draws its order, walked along a schedule, second form: an operation may turn even what others have read ('leaving'), if each that reads is waited for by it.
  Conditions: none (general lemmas, over any program).
-/
import Derived.Test.YthlfghheciamcaaDoorX
namespace Go.Proofs.YthlfghheciamcaaDoor
set_option linter.unusedVariables false
open Go.RowKit

section
variable {P : Program} {ops : Array Oper} {md : Region.Mode} {Z : Type} {pr : Z → World} {lv : Nat → Bool}

def Closed (C : World → Prop) : Prop := ∀ w w', C w → Below w.heap.size w w' → C w'
def Within (pr : Z → World) (C : World → Prop) : Prop := ∀ w, C w → ∃ z, pr z = w

/-- ONE VALUE in every world of the class. -/
def quietC (P : Program) (o : Oper) (a : Act) (C : World → Prop) (next : Act → Prop) : Prop :=
  ∃ v, (∀ w, C w → o.quietAt P a (fun w' => Below w.heap.size w w') w v) ∧ next (a.put o.dst v)
def effC (P : Program) (pr : Z → World) (out : Bool) (o : Oper) (a : Act) (C : World → Prop) (K : (World → Prop) → Act → Prop) : Prop :=
  ∀ w, C w → effUpon P (fun u w' => ∃ C', Closed C' ∧ (out = false → Within pr C') ∧ C' w' ∧ K C' (a.put o.dst u)) ((execOp a.eval o).run P w)
def yOp (P : Program) (ops : Array Oper) (pr : Z → World) (lv : Nat → Bool) (i : Nat) (K : (World → Prop) → Act → Prop) (C : World → Prop) (a : Act) : Prop :=
  match ops[i]? with
  | none => K C a
  | some o => if Region.wanted o (yielded ops a.tmps) then (quietC P o a C (K C) ∨ effC P pr (lv i) o a C K) else K C (a.put o.dst undef)

theorem yOp_mono {i : Nat} {a : Act} {C : World → Prop} {K K' : (World → Prop) → Act → Prop} (hW : Within pr C ∨ True) (h : ∀ C a, K C a → K' C a) (hh : yOp P ops pr lv i K C a) : yOp P ops pr lv i K' C a := by
  unfold yOp at *
  split
  · exact h _ _ (by simpa [*] using hh)
  · rename_i o ho
    simp only [ho] at hh
    split
    · rename_i hw; simp only [hw, if_true] at hh
      rcases hh with ⟨v, h1, h2⟩ | h1
      · exact .inl ⟨v, h1, h _ _ h2⟩
      · exact .inr fun w hw' => effUpon_mono (fun u w' ⟨C', h3, h4, h5, h6⟩ => ⟨C', h3, h4, h5, h _ _ h6⟩) (h1 w hw')
    · rename_i hw; simp only [hw] at hh; exact h _ _ hh

def wpY (P : Program) (md : Region.Mode) (ops : Array Oper) (pr : Z → World) (lv : Nat → Bool) (Q : (World → Prop) → Act → Prop) : Nat → Array Bool → (World → Prop) → Act → Prop
  | 0, listed, C, a => Region.ready md ops listed = [] ∧ Q C a
  | fuel + 1, listed, C, a =>
    (Region.ready md ops listed = [] → Q C a) ∧
    ∀ i ∈ Region.ready md ops listed, yOp P ops pr lv i (wpY P md ops pr lv Q fuel (listed.setIfInBounds i true)) C a

theorem wpOp_of_yOp {i : Nat} {a : Act} {C : World → Prop} {K : (World → Prop) → Act → Prop} {K' : Act → World → Prop} {Q' : Exit → Act → World → Prop} {w : World}
    (hO : Closed C) (hC : C w) (h : ∀ C a w', Closed C → C w' → K C a → K' a w') (hh : yOp P ops pr lv i K C a) : wpOp P ops Q' i K' a w := by
  unfold yOp at hh
  unfold wpOp
  split
  · rename_i ho; simp only [ho] at hh; exact h _ _ _ hO hC hh
  · rename_i o ho
    simp only [ho] at hh
    split
    · rename_i hw; simp only [hw, if_true] at hh
      refine .inl ?_
      rcases hh with ⟨v, h1, h2⟩ | h1
      · have h3 := h1 w hC
        unfold Oper.quietAt at h3
        unfold Oper.wp
        generalize (execOp a.eval o).run P w = r at *
        cases r with
        | ok n w' =>
          cases n <;> simp only [Oper.quietUpon] at h3 <;> simp only [Oper.upon]
          case value u =>
            obtain ⟨e1, e2⟩ := h3
            rw [e1, e2]
            exact h _ _ _ hO hC h2
          case skip =>
            obtain ⟨e1, e2⟩ := h3
            rw [e1, ← e2]
            exact h _ _ _ hO hC h2
          case enter f args =>
            obtain ⟨e1, hc⟩ := h3
            rw [e1]
            exact hc.mono fun e w'' ⟨he, hw''⟩ => by subst he; exact h _ _ _ hO (hO _ _ hC hw'') h2
        | halt x w' => simp only [Oper.quietUpon] at h3
      · have h3 := h1 w hC
        unfold Oper.wp
        generalize (execOp a.eval o).run P w = r at *
        cases r with
        | ok n w' =>
          cases n <;> simp only [effUpon] at h3 <;> simp only [Oper.upon]
          case value u =>
            obtain ⟨C', h4, _, h5, h6⟩ := h3
            exact h _ _ _ h4 h5 h6
          case skip =>
            obtain ⟨C', h4, _, h5, h6⟩ := h3
            exact h _ _ _ h4 h5 h6
          case enter f args =>
            exact h3.mono fun e w'' ⟨u, he, C', h4, _, h5, h6⟩ => by subst he; exact h _ _ _ h4 h5 h6
        | halt x w' => simp only [effUpon] at h3
    · rename_i hw; simp only [hw] at hh; exact h _ _ _ hO hC hh

theorem wpAny_of_y {Q : (World → Prop) → Act → Prop} {Q' : Exit → Act → World → Prop} (hQ : ∀ C a w, C w → Q C a → Q' .normal a w) :
    ∀ (fuel : Nat) (listed : Array Bool) (C : World → Prop) (a : Act) (w : World), Closed C → C w → wpY P md ops pr lv Q fuel listed C a → wpAny P md ops Q' fuel listed a w
  | 0, _, _, _, _, _, hw, h => ⟨h.1, hQ _ _ _ hw h.2⟩
  | fuel + 1, _, _, _, _, hO, hw, h => ⟨fun h0 => hQ _ _ _ hw (h.1 h0), fun i hi => wpOp_of_yOp hO hw (fun C' a' w' hO' hw' => wpAny_of_y hQ fuel _ C' a' w' hO' hw') (h.2 i hi)⟩

theorem YieldsB.yOp {i : Nat} {o : Oper} {v : Value} {a : Act} {C : World → Prop} {Z' : Type} {pr' : Z' → World} (hW : Within pr' C) (hi : ops[i]? = some o) (hy : YieldsB P ops pr' o v a) {K : (World → Prop) → Act → Prop} (h : K C (a.put o.dst v)) : yOp P ops pr lv i K C a := by
  unfold Proofs.YthlfghheciamcaaDoor.yOp
  simp only [hi]
  rcases hy with ⟨hw, hv⟩ | ⟨hw, rfl⟩
  · simp only [hw, if_true]; exact .inl ⟨v, fun w hc => by obtain ⟨z, hz⟩ := hW w hc; rw [← hz]; exact hv z, h⟩
  · simp only [hw, Bool.false_eq_true, if_false]; exact h

theorem yOp_put {j : Nat} {oi oj : Oper} {v : Value} {C : World → Prop} {Z' : Type} {pr' : Z' → World} (hj : ops[j]? = some oj) (hap : oi.apart ops oj = true)
    (hsi : ∀ cs b, oi.op ≠ .select cs b) (hsj : ∀ cs b, oj.op ≠ .select cs b) {K K' : (World → Prop) → Act → Prop} {a : Act}
    (hy : YieldsB P ops pr' oi v a) (hC : Within pr' C) (hCl : ∀ C', (lv j = false → Within pr C') → Within pr' C')
    (hK : ∀ C' a', Within pr' C' → YieldsB P ops pr' oi v a' → K C' (a'.put oi.dst v) → K' C' a') (h : yOp P ops pr lv j K C (a.put oi.dst v)) :
    yOp P ops pr lv j K' C a := by
  obtain ⟨h1, h2, h3⟩ := Oper.apart_spec hap
  have keep : ∀ (a : Act), YieldsB P ops pr' oi v a → ∀ u, YieldsB P ops pr' oi v (a.put oj.dst u) := fun a hy u =>
    hy.of_same (execOp_put oi hsi a oj.dst u h3) (wanted_put oi a oj.dst u h3)
  unfold Proofs.YthlfghheciamcaaDoor.yOp at *
  simp only [hj] at *
  rw [wanted_put oj a oi.dst v h1] at h
  split
  · rename_i hw
    simp only [hw, if_true] at h
    rcases h with ⟨u, hu, hn⟩ | hwr
    · refine .inl ⟨u, fun w hc => ?_, hK _ _ hC (keep a hy u) (by rw [← Act.put_comm a v u h2]; exact hn)⟩
      have := hu w hc
      unfold Oper.quietAt at *
      rwa [execOp_put oj hsj a oi.dst v h1] at this
    · refine .inr fun w hw' => ?_
      have := hwr w hw'
      rw [execOp_put oj hsj a oi.dst v h1] at this
      exact effUpon_mono (fun u w' ⟨C', h4, h5, h6, h7⟩ => ⟨C', h4, h5, h6, hK _ _ (hCl _ h5) (keep a hy u) (by rw [← Act.put_comm a v u h2]; exact h7)⟩) this
  · rename_i hw
    simp only [hw] at h
    exact hK _ _ hC (keep a hy _) (by rw [← Act.put_comm a v undef h2]; exact h)

theorem wpY_first {Q : (World → Prop) → Act → Prop} {Z' : Type} {pr' : Z' → World} {i : Nat} {oi : Oper} {v : Value} (hi : ops[i]? = some oi) (hsel : ∀ (j : Nat) (o : Oper) cs b, ops[j]? = some o → o.op ≠ .select cs b)
    (hlv : ∀ (j : Nat) (listed : Array Bool), listed.getD i true = false → j ∈ Region.ready md ops listed → j ≠ i → ∀ C', (lv j = false → Within pr C') → Within pr' C') :
    ∀ (fuel : Nat) (listed : Array Bool) (C : World → Prop) (a : Act), Within pr' C →
      (∀ j oj, ops[j]? = some oj → j ≠ i → listed.getD j true = false → (∀ e ∈ oj.after, Region.binds md e = true → e.on ≠ i) → oi.apart ops oj = true) →
      i ∈ Region.ready md ops listed → YieldsB P ops pr' oi v a →
      wpY P md ops pr lv Q fuel (listed.setIfInBounds i true) C (a.put oi.dst v) → wpY P md ops pr lv Q (fuel + 1) listed C a := by
  intro fuel
  induction fuel with
  | zero =>
    intro listed C a hC _ hr hy H
    refine ⟨fun h => (by rw [h] at hr; cases hr), fun j hj => ?_⟩
    by_cases hji : j = i
    · subst hji; exact hy.yOp hC hi H
    · have := ready_mono hj hji
      rw [H.1] at this
      cases this
  | succ fuel ih =>
    intro listed C a hC hfree hr hy H
    refine ⟨fun h => (by rw [h] at hr; cases hr), fun j hj => ?_⟩
    by_cases hji : j = i
    · subst hji; exact hy.yOp hC hi H
    · have h1 := H.2 j (ready_mono hj hji)
      obtain ⟨hjun, oj, hoj, hall⟩ := mem_ready.1 hj
      have hnot : ∀ e ∈ oj.after, Region.binds md e = true → e.on ≠ i := fun e he hb heq => by
        have h1 := hall e he hb
        have h0 := (mem_ready.1 hr).1
        rw [heq] at h1
        rcases Nat.lt_or_ge i listed.size with h' | h'
        · simp [h'] at h0 h1; rw [h0] at h1; cases h1
        · simp [Array.getElem?_eq_none h'] at h1
      have hfree' : ∀ k ok, ops[k]? = some ok → k ≠ i → (listed.setIfInBounds j true).getD k true = false →
          (∀ e ∈ ok.after, Region.binds md e = true → e.on ≠ i) → oi.apart ops ok = true := fun k ok hk hki hun hno => by
        refine hfree k ok hk hki ?_ hno
        by_cases hjk : j = k
        · subst hjk; exact hjun
        · rw [getD_set_ne true hjk] at hun; exact hun
      refine yOp_put hoj (hfree j oj hoj hji hjun hnot) (fun cs b => hsel i oi cs b hi) (fun cs b => hsel j oj cs b hoj) hy hC (hlv j listed (mem_ready.1 hr).1 hj hji)
        (fun C' a' hC' hy' h3 => ih (listed.setIfInBounds j true) C' a' hC' hfree' (ready_mono hr (Ne.symm hji)) hy' ?_) h1
      rw [Array.setIfInBounds_comm _ _ hji]
      exact h3

/-- 0: it yields one value in every world of the universe, and each leaving operation waits for it; 1: it yields one value in every world; 2: it turns the world, and is ready alone -/
def sched2B (md : Region.Mode) (ops : Array Oper) (lvs : List Nat) : List (Nat × Nat) → Array Bool → Bool
  | [], listed => (Region.ready md ops listed).isEmpty
  | (i, 0) :: is, listed => ((Region.ready md ops listed).contains i && Region.free md ops listed i && lvs.all (fun j => Region.waitsFor md ops j i && !listed.getD j true)) && sched2B md ops lvs is (listed.setIfInBounds i true)
  | (i, 1) :: is, listed => ((Region.ready md ops listed).contains i && Region.free md ops listed i) && sched2B md ops lvs is (listed.setIfInBounds i true)
  | (i, _ + 2) :: is, listed => decide (Region.ready md ops listed = [i]) && sched2B md ops lvs is (listed.setIfInBounds i true)

def wpS (P : Program) (ops : Array Oper) (pr : Z → World) (lvs : List Nat) (Q : (World → Prop) → Act → Prop) : List (Nat × Nat) → (World → Prop) → Act → Prop
  | [], C, a => Q C a
  | (i, 0) :: is, C, a => match ops[i]? with
    | none => False
    | some o => Within pr C ∧ if Region.wanted o (yielded ops a.tmps) then quietB P pr o a (wpS P ops pr lvs Q is C) else wpS P ops pr lvs Q is C (a.put o.dst undef)
  | (i, 1) :: is, C, a => match ops[i]? with
    | none => False
    | some o => if Region.wanted o (yielded ops a.tmps) then quietB P (fun w : World => w) o a (wpS P ops pr lvs Q is C) else wpS P ops pr lvs Q is C (a.put o.dst undef)
  | (i, _ + 2) :: is, C, a => match ops[i]? with
    | none => False
    | some o => Region.wanted o (yielded ops a.tmps) = true ∧ effC P pr (lvs.contains i) o a C (wpS P ops pr lvs Q is)

theorem within_world (C : World → Prop) : Within (fun w : World => w) C := fun w _ => ⟨w, rfl⟩

theorem wpY_sched {Q : (World → Prop) → Act → Prop} {lvs : List Nat} (hsel : Region.noSelect ops = true) : ∀ (is : List (Nat × Nat)) (listed : Array Bool) (C : World → Prop) (a : Act),
    sched2B md ops lvs is listed = true → wpS P ops pr lvs Q is C a → wpY P md ops pr (fun j => lvs.contains j) Q is.length listed C a
  | [], _, _, _, hB, h => ⟨by simpa [sched2B] using hB, h⟩
  | (i, 0) :: is, listed, C, a, hB, h => by
    simp only [sched2B, Bool.and_eq_true] at hB
    obtain ⟨⟨⟨hr, hf⟩, hl⟩, hB'⟩ := hB
    simp only [wpS] at h
    split at h
    · exact h.elim
    · rename_i o ho
      obtain ⟨hW, h⟩ := h
      have hy : ∃ v, YieldsB P ops pr o v a ∧ wpS P ops pr lvs Q is C (a.put o.dst v) := by
        split at h
        · rename_i hw
          obtain ⟨v, h1, h2⟩ := h
          exact ⟨v, .inl ⟨hw, h1⟩, h2⟩
        · rename_i hw
          exact ⟨undef, .inr ⟨by simpa using hw, rfl⟩, h⟩
      obtain ⟨v, hy, hK⟩ := hy
      refine wpY_first ho (Region.noSelect_spec hsel) (fun j listed' hun hj hne C' hc => ?_) is.length listed C a hW (Region.free_spec ho hf) (by simpa using hr) hy (wpY_sched hsel is _ C _ hB' hK)
      refine hc ?_
      cases hlj : lvs.contains j with
      | false => rfl
      | true =>
        exfalso
        have h1 := List.all_eq_true.1 hl j (by simpa using hlj)
        simp only [Bool.and_eq_true] at h1
        obtain ⟨oj, hoj, e, he, hb, hon⟩ := Region.waitsFor_spec h1.1
        obtain ⟨_, oj', hoj', hall⟩ := mem_ready.1 hj
        have : oj = oj' := Option.some.inj (hoj.symm.trans hoj')
        subst this
        have h2 := hall e he hb
        rw [hon, getD_both hun] at h2
        cases h2
  | (i, 1) :: is, listed, C, a, hB, h => by
    simp only [sched2B, Bool.and_eq_true] at hB
    obtain ⟨⟨hr, hf⟩, hB'⟩ := hB
    simp only [wpS] at h
    split at h
    · exact h.elim
    · rename_i o ho
      have hy : ∃ v, YieldsB P ops (fun w : World => w) o v a ∧ wpS P ops pr lvs Q is C (a.put o.dst v) := by
        split at h
        · rename_i hw
          obtain ⟨v, h1, h2⟩ := h
          exact ⟨v, .inl ⟨hw, h1⟩, h2⟩
        · rename_i hw
          exact ⟨undef, .inr ⟨by simpa using hw, rfl⟩, h⟩
      obtain ⟨v, hy, hK⟩ := hy
      exact wpY_first ho (Region.noSelect_spec hsel) (fun j listed' hun hj hne C' hc => within_world C') is.length listed C a (within_world C) (Region.free_spec ho hf) (by simpa using hr) hy (wpY_sched hsel is _ C _ hB' hK)
  | (i, k + 2) :: is, listed, C, a, hB, h => by
    simp only [sched2B, Bool.and_eq_true, decide_eq_true_eq] at hB
    obtain ⟨hr, hB'⟩ := hB
    simp only [wpS] at h
    split at h
    · exact h.elim
    · rename_i o ho
      refine ⟨fun h0 => (by rw [hr] at h0; cases h0), fun j hj => ?_⟩
      rw [hr] at hj
      have hji : j = i := by simpa using hj
      subst hji
      unfold yOp
      simp only [ho]
      rw [if_pos h.1]
      exact .inr fun w hw => effUpon_mono (fun u w' ⟨C', h4, h5, h6, h7⟩ => ⟨C', h4, h5, h6, wpY_sched hsel is _ C' _ hB' h7⟩) (h.2 w hw)

theorem s_nil {Q : (World → Prop) → Act → Prop} {C : World → Prop} {a : Act} {lvs : List Nat} (h : Q C a) : wpS P ops pr lvs Q [] C a := h
theorem s_quiet {Q : (World → Prop) → Act → Prop} {C : World → Prop} {a : Act} {i : Nat} {is : List (Nat × Nat)} {lvs : List Nat} {o : Oper} (ho : ops[i]? = some o) (hW : Within pr C)
    (h : ∀ K : Act → Prop, (∀ a, wpS P ops pr lvs Q is C a → K a) → if Region.wanted o (yielded ops a.tmps) then quietB P pr o a K else K (a.put o.dst undef)) : wpS P ops pr lvs Q ((i, 0) :: is) C a := by
  simp only [wpS, ho]
  exact ⟨hW, h _ fun _ h => h⟩
theorem s_pure {Q : (World → Prop) → Act → Prop} {C : World → Prop} {a : Act} {i : Nat} {is : List (Nat × Nat)} {lvs : List Nat} {o : Oper} (ho : ops[i]? = some o)
    (h : ∀ K : Act → Prop, (∀ a, wpS P ops pr lvs Q is C a → K a) → if Region.wanted o (yielded ops a.tmps) then quietB P (fun w : World => w) o a K else K (a.put o.dst undef)) : wpS P ops pr lvs Q ((i, 1) :: is) C a := by
  simp only [wpS, ho]
  exact h _ fun _ h => h
theorem s_eff {Q : (World → Prop) → Act → Prop} {C : World → Prop} {a : Act} {i : Nat} {is : List (Nat × Nat)} {lvs : List Nat} {o : Oper} (ho : ops[i]? = some o) (hw : Region.wanted o (yielded ops a.tmps) = true)
    (h : ∀ K : (World → Prop) → Act → Prop, (∀ C a, wpS P ops pr lvs Q is C a → K C a) → ∀ w, C w → effUpon P (fun u w' => ∃ C', Closed C' ∧ (lvs.contains i = false → Within pr C') ∧ C' w' ∧ K C' (a.put o.dst u)) ((execOp a.eval o).run P w)) :
    wpS P ops pr lvs Q ((i, 2) :: is) C a := by
  simp only [wpS, ho]
  exact ⟨hw, h _ fun _ _ h => h⟩

/-- A region that draws its order, along a schedule. -/
theorem wp_region_sched2 {id : Nat} {Q : Exit → Act → World → Prop} {a : Act} {w : World} {l : List Oper} (lvs : List Nat) (is : List (Nat × Nat)) (pr : Z → World) (C : World → Prop) (hO : Closed C)
    (hm : P.follows .mixedOrders = true) (hlen : is.length = l.length) (hsel : Region.noSelect l.toArray = true) (hB : sched2B .any l.toArray lvs is (Array.replicate l.toArray.size false) = true) (h0 : C w.drew)
    (h : wpS P l.toArray pr lvs (fun C a' => ∀ w', C w' → Q .normal a' w') is C a) : (Code.region id l.toArray true).wp P Q a w := by
  refine wp_region_any hm ?_
  have := wpY_sched (md := .any) hsel is (Array.replicate l.toArray.size false) C a hB h
  rw [hlen, show l.length = l.toArray.size by simp] at this
  exact wpAny_of_y (fun C a w hw hq => hq w hw) _ _ _ _ _ hO h0 this
end
attribute [irreducible] wpS

theorem closed_near (w : World) : Closed (nearC w) := (okay_near w).closed
theorem within_near (w : World) : Within (Near.v (w := w)) (nearC w) := (okay_near w).sub
theorem within_near_of {w w1 : World} (h : Below w.heap.size w w1) : Within (Near.v (w := w)) (nearC w1) := (okay_near_of h).sub
theorem within_turned {w w1 : World} {g : Nat} (h : w.grownBy w1 (some g)) : Within (Turned.v (w := w) (g := g)) (nearC w1) := (okay_turned h).sub
end Go.Proofs.YthlfghheciamcaaDoor
