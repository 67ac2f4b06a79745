/-
  Contracts of package policy, second part: whether a link may be; an option's kind and length; a side by its kinds.
  Conditions: as each states.
-/
import Derived.Test.YthlfghheciamcaaDoorK1
import Derived.WalkSpells
import Derived.WalkLawsBesides
import Derived.Lib.SmallJoins
namespace Go.Proofs.YthlfghheciamcaaDoor
open Go.RowKit
set_option linter.unusedVariables false

theorem ret_bool {a b : Bool} (h : a = b) : Ending.returned (.bool a) = .returned (.bool b) := by rw [h]
theorem ret_num {a b : Int} (h : a = b) : Ending.returned (.int .i64 a) = .returned (.int .i64 b) := by rw [h]

set_option maxHeartbeats 1000000 in
theorem may_any (l : LinkD) (w : World) : Calls Tryd.prog 23 #[.agg #[.int .i64 l.mru, .int .i64 l.magic, .int .i64 l.mrru, .bool l.short, .string l.disc, .int .i64 l.num]] w fun e w' => e = .returned (.bool l.may) ∧ Below w.heap.size w w' := by
  obtain ⟨mru, magic, mrru, short, disc, num⟩ := l
  go_enter Tryd.func23, Tryd.ntmps23
  go_wp2_with (go_at_call 31; refine (unit_any _ _).mono ?_; rintro e w' ⟨rfl, rfl⟩)
  all_goals
    go_ret
    refine ⟨ret_bool ?_, (Below.refl _ _).alloc (Nat.le_refl _) _⟩
    go_tidy
    (try simp_all [LinkD.may, sizeB]) <;> (intros; omega)

set_option maxHeartbeats 1000000 in
theorem may_ref (l : LinkD) (w : World) : Calls Tryd.prog 14 #[.agg #[.int .i64 l.mru, .int .i64 l.magic, .int .i64 l.mrru, .bool l.short, .string l.disc, .int .i64 l.num]] w fun e w' => e = .returned (.bool l.may) ∧ Below w.heap.size w w' := by
  obtain ⟨mru, magic, mrru, short, disc, num⟩ := l
  go_enter Tryd.func14, Tryd.ntmps14
  go_wp2_with (go_at_call 25; refine (size_ref _ _).mono ?_; rintro e w' ⟨rfl, rfl⟩)
  all_goals
    go_ret
    refine ⟨ret_bool ?_, (Below.refl _ _).alloc (Nat.le_refl _) _⟩
    go_tidy
    (try simp_all [LinkD.may]) <;> (intros; omega)

theorem right_any (o : OptD) (w : World) : Calls Tryd.prog 53 #[.agg #[.int .i64 o.kind, .string o.data]] w fun e w' => e = .returned (.bool (rightB o)) ∧ Below w.heap.size w w' := by
  obtain ⟨kind, data⟩ := o
  have hm : ((-1 : Int) == (data.size : Int)) = false := by rw [beq_eq_false_iff_ne]; omega
  go_enter Tryd.func53, Tryd.ntmps53
  go_wp2_with (go_at_call 65; refine (size_any _ _).mono ?_; rintro e w' ⟨rfl, rfl⟩)
  all_goals
    go_ret
    refine ⟨ret_bool ?_, (Below.refl _ _).alloc (Nat.le_refl _) _⟩
    go_tidy
    (try simp_all [rightB]) <;> (try intros) <;> (first | omega | (rw [Bool.eq_iff_iff]; constructor <;> (intro h; simp_all <;> omega)))

/-- block b is a side that asks for l -/
def Side (w : World) (b : Nat) (l : LinkD) : Prop := Blk w b 103 l.cells
structure SideCells (w : World) (b : Nat) (l : LinkD) : Prop where
  c0 : w.cell? ⟨b, 0, none⟩ = some (.int .i64 l.mru)
  c1 : w.cell? ⟨b, 1, none⟩ = some (.int .i64 l.magic)
  c2 : w.cell? ⟨b, 2, none⟩ = some (.int .i64 l.mrru)
  c3 : w.cell? ⟨b, 3, none⟩ = some (.bool l.short)
  c4 : w.cell? ⟨b, 4, none⟩ = some (.string l.disc)
  c5 : w.cell? ⟨b, 5, none⟩ = some (.int .i64 l.num)
theorem Side.cells {w : World} {b : Nat} {l : LinkD} (h : Side w b l) : SideCells w b l :=
  ⟨h.cell 0, h.cell 1, h.cell 2, h.cell 3, h.cell 4, h.cell 5⟩
theorem Side.below {w w' : World} {b : Nat} {l : LinkD} (h : Side w b l) (hb : Below w.heap.size w w') : Side w' b l := Blk.below h hb h.lt

def fieldV (b : Nat) (k : Int) : Value :=
  if k = 1 then .pointer (some ⟨b, 0, none⟩) else if k = 5 then .pointer (some ⟨b, 1, none⟩) else if k = 17 then .pointer (some ⟨b, 2, none⟩) else if k = 23 then .pointer (some ⟨b, 5, none⟩) else .pointer none

theorem field_any (b : Nat) (k : Int) (v : Value) (hv : fieldV b k = v) (w : World) :
    Calls Tryd.prog 63 #[.pointer (some ⟨b, 0, none⟩), .int .i64 k] w fun e w' => e = .returned v ∧ w = w' := by
  subst hv
  by_cases h1 : k = 1
  · subst h1; go_enter Tryd.func63, Tryd.ntmps63; go_wp2; go_ret; exact ⟨rfl, rfl⟩
  by_cases h5 : k = 5
  · subst h5; go_enter Tryd.func63, Tryd.ntmps63; go_wp2; go_ret; exact ⟨rfl, rfl⟩
  by_cases h17 : k = 17
  · subst h17; go_enter Tryd.func63, Tryd.ntmps63; go_wp2; go_ret; exact ⟨rfl, rfl⟩
  by_cases h23 : k = 23
  · subst h23; go_enter Tryd.func63, Tryd.ntmps63; go_wp2; go_ret; exact ⟨rfl, rfl⟩
  have e : fieldV b k = .pointer none := by simp [fieldV, *]
  have H := Lib.hid e
  clear e
  go_enter Tryd.func63, Tryd.ntmps63
  go_wp2
  go_ret
  exact ⟨by rw [H.out]; rfl, rfl⟩

theorem asks_any (b : Nat) (l : LinkD) (k : Int) (w : World) (hs : Side w b l) :
    Calls Tryd.prog 56 #[.pointer (some ⟨b, 0, none⟩), .int .i64 k] w fun e w' => e = .returned (.bool (l.asks k)) ∧ w = w' := by
  obtain ⟨c0, c1, c2, c3, c4, c5⟩ := hs.cells
  clear hs
  by_cases h18 : k = 18
  · subst h18; go_enter Tryd.func56, Tryd.ntmps56; go_wp2; go_ret; exact ⟨rfl, rfl⟩
  by_cases h19 : k = 19
  · subst h19; go_enter Tryd.func56, Tryd.ntmps56; go_wp2; go_ret; exact ⟨rfl, rfl⟩
  by_cases h1 : k = 1
  · subst h1; go_enter Tryd.func56, Tryd.ntmps56
    go_wp2_with (go_at_call 63; refine (field_any b 1 (.pointer (some ⟨b, 0, none⟩)) rfl _).mono ?_; rintro e w' ⟨rfl, rfl⟩)
    go_ret; exact ⟨rfl, rfl⟩
  by_cases h5 : k = 5
  · subst h5; go_enter Tryd.func56, Tryd.ntmps56
    go_wp2_with (go_at_call 63; refine (field_any b 5 (.pointer (some ⟨b, 1, none⟩)) rfl _).mono ?_; rintro e w' ⟨rfl, rfl⟩)
    go_ret; exact ⟨rfl, rfl⟩
  by_cases h17 : k = 17
  · subst h17; go_enter Tryd.func56, Tryd.ntmps56
    go_wp2_with (go_at_call 63; refine (field_any b 17 (.pointer (some ⟨b, 2, none⟩)) rfl _).mono ?_; rintro e w' ⟨rfl, rfl⟩)
    go_ret; exact ⟨rfl, rfl⟩
  by_cases h23 : k = 23
  · subst h23; go_enter Tryd.func56, Tryd.ntmps56
    go_wp2_with (go_at_call 63; refine (field_any b 23 (.pointer (some ⟨b, 5, none⟩)) rfl _).mono ?_; rintro e w' ⟨rfl, rfl⟩)
    go_ret; exact ⟨rfl, rfl⟩
  have hf : fieldV b k = .pointer none := by simp [fieldV, *]
  have e : l.asks k = false := by simp [LinkD.asks, LinkD.field, *]
  have H := Lib.hid e
  clear e
  go_enter Tryd.func56, Tryd.ntmps56
  go_wp2_with (go_at_call 63; refine (field_any b k (.pointer none) hf _).mono ?_; rintro e w' ⟨rfl, rfl⟩)
  go_ret
  exact ⟨by rw [H.out]; rfl, rfl⟩

/-- what a side's block alone has come to -/
structure SideTo (w w' : World) (b : Nat) (l : LinkD) : Prop where
  side : Side w' b l
  grown : w.grownBy w' (some b)

theorem SideTo.set {w : World} {b : Nat} {l l' : LinkD} {o : Obj} (h : Side w b l) (i : Nat) (v : Value) (he : l.cells.setIfInBounds i v = l'.cells) : SideTo w ((w.setCell ⟨b, i, none⟩ v).alloc o) b l' := by
  refine ⟨?_, only_alloc (only_setCell (World.grownBy.refl w _) (.inl rfl) v) o⟩
  have := Blk.alloc (Blk.set_ h i v) o
  rwa [he] at this
theorem SideTo.set0 {w : World} {b : Nat} {l l' : LinkD} (h : Side w b l) (i : Nat) (v : Value) (he : l.cells.setIfInBounds i v = l'.cells) : SideTo w (w.setCell ⟨b, i, none⟩ v) b l' := by
  refine ⟨?_, only_setCell (World.grownBy.refl w _) (.inl rfl) v⟩
  have := Blk.set_ h i v
  rwa [he] at this

theorem SideTo.near {w : World} {b : Nat} {l l' : LinkD} {o : Obj} (h : Side w b l) (x : Near (w.alloc o)) (i : Nat) (v : Value) (he : l.cells.setIfInBounds i v = l'.cells) : SideTo w (x.v.setCell ⟨b, i, none⟩ v) b l' := by
  have hb : w.grownBy x.v (some b) := grown_from_alloc (o := o) (only_of_below x.below (some b))
  refine ⟨?_, only_setCell hb (.inl rfl) v⟩
  have := Blk.set_ (Near.blk (Blk.alloc h o) x) i v
  rwa [he] at this

theorem set_any (b : Nat) (l : LinkD) (o : OptD) (w : World) (hs : Side w b l) (hk : sizeK o.kind ≠ -2) (hd : o.data.size ≤ 140737488351232) :
    Calls Tryd.prog 66 #[.pointer (some ⟨b, 0, none⟩), .agg #[.int .i64 o.kind, .string o.data]] w fun e w' => e = .returned (.tuple #[]) ∧ SideTo w w' b (l.set o) := by
  obtain ⟨kind, data⟩ := o
  obtain ⟨c0, c1, c2, c3, c4, c5⟩ := hs.cells
  have hfz : ∀ i, w.frozen? ⟨b, i, none⟩ = false := Blk.frozen hs
  have hlt := hs.lt
  have HS := Lib.hid hs
  clear hs
  by_cases h18 : kind = 18
  · subst h18; go_enter Tryd.func66, Tryd.ntmps66; go_wp2; go_end0; exact ⟨rfl, SideTo.set HS.out _ _ rfl⟩
  by_cases h19 : kind = 19
  · subst h19; go_enter Tryd.func66, Tryd.ntmps66; go_wp2; go_end0; exact ⟨rfl, SideTo.set HS.out _ _ rfl⟩
  by_cases h1 : kind = 1
  · subst h1; go_enter Tryd.func66, Tryd.ntmps66; go_wp2
    have n0 := Near.cell (w := w.alloc (.cells #[.int .i64 1, .string data] 79)) (a := ⟨w.heap.size, 0, none⟩) (u := .int .i64 1) (by simp)
    have n1 := Near.cell (w := w.alloc (.cells #[.int .i64 1, .string data] 79)) (a := ⟨w.heap.size, 1, none⟩) (u := .string data) (by simp)
    refine wp_region_near_tail 8 (by kernel_rfl) (by kernel_rfl) ?_
    simp only [List.take_succ_cons, List.take_zero, List.drop_succ_cons, List.drop_zero]
    repeat (go_big_quiet_step ((first | (go_at_call 63; exact near_of_same (field_any b 1 (.pointer (some ⟨b, 0, none⟩)) rfl _)) | (go_at_call 70; exact near_of_same (value_any data _ hd)))))
    refine wpQuiet_nil ?_
    intro x
    clear n0 n1
    have xc : x.v.cell? ⟨b, 0, none⟩ = some (.int .i64 l.mru) := (Near.blk (w := w.alloc (.cells #[.int .i64 1, .string data] 79)) (Blk.alloc HS.out _) x).cell 0
    have xf := (Near.blk (w := w.alloc (.cells #[.int .i64 1, .string data] 79)) (Blk.alloc HS.out _) x).frozen 0
    go_wp2
    go_end0
    exact ⟨rfl, SideTo.near HS.out x _ _ rfl⟩
  by_cases h5 : kind = 5
  · subst h5; go_enter Tryd.func66, Tryd.ntmps66; go_wp2
    have n0 := Near.cell (w := w.alloc (.cells #[.int .i64 5, .string data] 79)) (a := ⟨w.heap.size, 0, none⟩) (u := .int .i64 5) (by simp)
    have n1 := Near.cell (w := w.alloc (.cells #[.int .i64 5, .string data] 79)) (a := ⟨w.heap.size, 1, none⟩) (u := .string data) (by simp)
    refine wp_region_near_tail 8 (by kernel_rfl) (by kernel_rfl) ?_
    simp only [List.take_succ_cons, List.take_zero, List.drop_succ_cons, List.drop_zero]
    repeat (go_big_quiet_step ((first | (go_at_call 63; exact near_of_same (field_any b 5 (.pointer (some ⟨b, 1, none⟩)) rfl _)) | (go_at_call 70; exact near_of_same (value_any data _ hd)))))
    refine wpQuiet_nil ?_
    intro x
    clear n0 n1
    have xc : x.v.cell? ⟨b, 1, none⟩ = some (.int .i64 l.magic) := (Near.blk (w := w.alloc (.cells #[.int .i64 5, .string data] 79)) (Blk.alloc HS.out _) x).cell 1
    have xf := (Near.blk (w := w.alloc (.cells #[.int .i64 5, .string data] 79)) (Blk.alloc HS.out _) x).frozen 1
    go_wp2
    go_end0
    exact ⟨rfl, SideTo.near HS.out x _ _ rfl⟩
  by_cases h17 : kind = 17
  · subst h17; go_enter Tryd.func66, Tryd.ntmps66; go_wp2
    have n0 := Near.cell (w := w.alloc (.cells #[.int .i64 17, .string data] 79)) (a := ⟨w.heap.size, 0, none⟩) (u := .int .i64 17) (by simp)
    have n1 := Near.cell (w := w.alloc (.cells #[.int .i64 17, .string data] 79)) (a := ⟨w.heap.size, 1, none⟩) (u := .string data) (by simp)
    refine wp_region_near_tail 8 (by kernel_rfl) (by kernel_rfl) ?_
    simp only [List.take_succ_cons, List.take_zero, List.drop_succ_cons, List.drop_zero]
    repeat (go_big_quiet_step ((first | (go_at_call 63; exact near_of_same (field_any b 17 (.pointer (some ⟨b, 2, none⟩)) rfl _)) | (go_at_call 70; exact near_of_same (value_any data _ hd)))))
    refine wpQuiet_nil ?_
    intro x
    clear n0 n1
    have xc : x.v.cell? ⟨b, 2, none⟩ = some (.int .i64 l.mrru) := (Near.blk (w := w.alloc (.cells #[.int .i64 17, .string data] 79)) (Blk.alloc HS.out _) x).cell 2
    have xf := (Near.blk (w := w.alloc (.cells #[.int .i64 17, .string data] 79)) (Blk.alloc HS.out _) x).frozen 2
    go_wp2
    go_end0
    exact ⟨rfl, SideTo.near HS.out x _ _ rfl⟩
  by_cases h23 : kind = 23
  · subst h23; go_enter Tryd.func66, Tryd.ntmps66; go_wp2
    have n0 := Near.cell (w := w.alloc (.cells #[.int .i64 23, .string data] 79)) (a := ⟨w.heap.size, 0, none⟩) (u := .int .i64 23) (by simp)
    have n1 := Near.cell (w := w.alloc (.cells #[.int .i64 23, .string data] 79)) (a := ⟨w.heap.size, 1, none⟩) (u := .string data) (by simp)
    refine wp_region_near_tail 8 (by kernel_rfl) (by kernel_rfl) ?_
    simp only [List.take_succ_cons, List.take_zero, List.drop_succ_cons, List.drop_zero]
    repeat (go_big_quiet_step ((first | (go_at_call 63; exact near_of_same (field_any b 23 (.pointer (some ⟨b, 5, none⟩)) rfl _)) | (go_at_call 70; exact near_of_same (value_any data _ hd)))))
    refine wpQuiet_nil ?_
    intro x
    clear n0 n1
    have xc : x.v.cell? ⟨b, 5, none⟩ = some (.int .i64 l.num) := (Near.blk (w := w.alloc (.cells #[.int .i64 23, .string data] 79)) (Blk.alloc HS.out _) x).cell 5
    have xf := (Near.blk (w := w.alloc (.cells #[.int .i64 23, .string data] 79)) (Blk.alloc HS.out _) x).frozen 5
    go_wp2
    go_end0
    exact ⟨rfl, SideTo.near HS.out x _ _ rfl⟩
  exact absurd (by simp [sizeK, *]) hk

theorem clear_any (b : Nat) (l : LinkD) (k : Int) (w : World) (hs : Side w b l) (hk : sizeK k ≠ -2) :
    Calls Tryd.prog 57 #[.pointer (some ⟨b, 0, none⟩), .int .i64 k] w fun e w' => e = .returned (.tuple #[]) ∧ SideTo w w' b (l.clear k) := by
  obtain ⟨c0, c1, c2, c3, c4, c5⟩ := hs.cells
  have hfz : ∀ i, w.frozen? ⟨b, i, none⟩ = false := Blk.frozen hs
  have HS := Lib.hid hs
  clear hs
  by_cases h18 : k = 18
  · subst h18; go_enter Tryd.func57, Tryd.ntmps57; go_wp2; go_end0; exact ⟨rfl, SideTo.set0 HS.out _ _ rfl⟩
  by_cases h19 : k = 19
  · subst h19; go_enter Tryd.func57, Tryd.ntmps57; go_wp2; go_end0; exact ⟨rfl, SideTo.set0 HS.out _ _ rfl⟩
  by_cases h1 : k = 1
  · subst h1; go_enter Tryd.func57, Tryd.ntmps57
    go_wp2_with (go_at_call 63; refine (field_any b 1 (.pointer (some ⟨b, 0, none⟩)) rfl _).mono ?_; rintro e w' ⟨rfl, rfl⟩)
    go_end0; exact ⟨rfl, SideTo.set0 HS.out _ _ rfl⟩
  by_cases h5 : k = 5
  · subst h5; go_enter Tryd.func57, Tryd.ntmps57
    go_wp2_with (go_at_call 63; refine (field_any b 5 (.pointer (some ⟨b, 1, none⟩)) rfl _).mono ?_; rintro e w' ⟨rfl, rfl⟩)
    go_end0; exact ⟨rfl, SideTo.set0 HS.out _ _ rfl⟩
  by_cases h17 : k = 17
  · subst h17; go_enter Tryd.func57, Tryd.ntmps57
    go_wp2_with (go_at_call 63; refine (field_any b 17 (.pointer (some ⟨b, 2, none⟩)) rfl _).mono ?_; rintro e w' ⟨rfl, rfl⟩)
    go_end0; exact ⟨rfl, SideTo.set0 HS.out _ _ rfl⟩
  by_cases h23 : k = 23
  · subst h23; go_enter Tryd.func57, Tryd.ntmps57
    go_wp2_with (go_at_call 63; refine (field_any b 23 (.pointer (some ⟨b, 5, none⟩)) rfl _).mono ?_; rintro e w' ⟨rfl, rfl⟩)
    go_end0; exact ⟨rfl, SideTo.set0 HS.out _ _ rfl⟩
  exact absurd (by simp [sizeK, *]) hk

end Go.Proofs.YthlfghheciamcaaDoor
