/-
  PolicyRejects: if one option is to be rejected, those alone are told: the law answers true at every link and number.
  Conditions: none.
-/
import Derived.Test.YthlfghheciamcaaM2
import Derived.Test.YthlfghheciamcaaT4
import Derived.BigQuiet
namespace Go.Proofs.Ythlfghheciamcaa
open Go.RowKit Go.Joins Go.ChangeShapes Go.WideShapes Go.Deep
open Go.ChangeMaps (open_string shut_string)
set_option linter.unusedVariables false

theorem reads_one' (w : World) (o : OptD) (g : Nat) (hg : g = w.heap.size) : Reads (w.alloc (.cells #[.int .i64 o.kind, .string o.data] 36)) (w.alloc (.cells #[.int .i64 o.kind, .string o.data] 36)).heap.size 2 (some ⟨g, 0, none⟩) 1 (optCells [o]) := by
  subst hg
  exact reads_one w o
theorem own_empty (w : World) : (w.alloc (.cells #[] 36)).ownsRow w.heap.size 36 2 (.slice (some ⟨w.heap.size, 0, none⟩) 0 0) 0 [] :=
  ⟨rfl, .inr ⟨w.heap.size, 0, #[], rfl, Nat.le_refl _, heap_alloc_new w _, Nat.le_refl _, Nat.zero_le _, rfl, rfl⟩⟩
theorem take_first (L : List OptD) (h : 0 < L.length) : [L[0]'h] = L.take 1 := by
  cases L with
  | nil => simp at h
  | cons x L => rfl
theorem and_range (x : Int) (m : Nat) (hm : m < 9223372036854775808) : 0 ≤ bits .and .i64 x (m : Int) ∧ bits .and .i64 x (m : Int) ≤ m := by
  have e : bits .and .i64 x (m : Int) = IntKind.i64.wrap (((BitVec.ofInt 64 x &&& BitVec.ofInt 64 (m : Int)).toNat : Nat) : Int) := rfl
  rw [e, BitVec.toNat_and, i64_ofInt m hm]
  have := Nat.and_le_right (n := (BitVec.ofInt 64 x).toNat) (m := m)
  rw [IntKind.wrap_i64]
  generalize (BitVec.ofInt 64 x).toNat &&& m = k at *
  omega
theorem at_range (x : Int) (n : Nat) (hn : n ≤ 6) : ∃ I : Nat, wrap64 ((IntKind.u64.wrap x).tmod ((n : Int) + 1)) = (I : Int) ∧ I ≤ n := by
  have h0 : 0 ≤ IntKind.u64.wrap x := by unfold IntKind.wrap; simp [IntKind.bits, IntKind.signed]; omega
  rw [Int.tmod_eq_emod_of_nonneg h0]
  have h1 := Int.emod_nonneg (IntKind.u64.wrap x) (show ((n : Int) + 1) ≠ 0 by omega)
  have h2 := Int.emod_lt_of_pos (IntKind.u64.wrap x) (show 0 < ((n : Int) + 1) by omega)
  generalize IntKind.u64.wrap x % ((n : Int) + 1) = k at *
  refine ⟨k.toNat, ?_, by omega⟩
  unfold wrap64
  omega

set_option maxRecDepth 100000 in
set_option maxHeartbeats 4000000 in
theorem walk_policyRejects (a : LinkD) (kind at_ : Int) (w : World) :
    Calls Try.prog 6 #[.agg #[.int .i64 a.mru, .int .i64 a.magic, .int .i64 a.mrru, .bool a.short, .string a.disc, .int .i64 a.num], .int .i64 kind, .int .i64 at_] w fun e w' => e = .returned (.bool true) ∧ Below w.heap.size w w' := by
  go_enter Try.func6, Try.ntmps6
  go_wp2_with fail
  have hla := Lib.hid (LinkAt.new w a)
  have hb := Lib.hid (((Below.refl w.heap.size w).alloc (Nat.le_refl _) (.cells a.cells 23)))
  refine (awake_any _).mono ?_
  rintro e w1 ⟨rfl, hk1⟩
  have ha1 := Lib.hid (hla.out.below hk1)
  have hw1 := Lib.hid (below_trans' hb.out hb.out.size hk1)
  clear hla hb hk1
  obtain ⟨c0, c1, c2, c3, c4, c5⟩ := ha1.out.cells
  rcases hma : a.may with _ | _
  · go_wp2_with fail
    refine (ask_no a _ hma).mono ?_
    rintro e w2 ⟨rfl, hk2⟩
    have hw2 := Lib.hid (below_trans' hw1.out hw1.out.size hk2.below)
    clear hk2
    go_wp2_with (go_at_call 11; refine (num_any _ _).mono ?_; rintro e w' ⟨rfl, rfl⟩)
    go_ret
    exact ⟨rfl, hw2.out⟩
  · go_wp2_with fail
    refine (ask_yes a _ hma).mono ?_
    rintro e w2 ⟨v, rfl, hk2⟩
    have hw2 := Lib.hid (below_trans' hw1.out hw1.out.size hk2.below)
    have OWN := Lib.hid (own_base hk2.own (Nat.zero_le _))
    obtain ⟨A, cp, rfl, hncp, hcm, _⟩ := own_shape OWN.out
    have hlen : a.ask.length ≤ 6 := by
      have e : a.ask = a.askL kindsL := by simp [LinkD.ask, hma]
      rw [e]; exact askL_le a kindsL
    have HR := Lib.hid (Reads.of_own OWN.out)
    clear hk2 c0 c1 c2 c3 c4 c5 ha1 hw1
    have hpos : 0 < IntKind.u64.wrap ((a.ask.length : Int) + 1) := by
      rw [show IntKind.u64.wrap ((a.ask.length : Int) + 1) = (a.ask.length : Int) + 1 by simp [IntKind.wrap, IntKind.bits, IntKind.signed]; omega]
      omega
    have hK := and_range kind 63 (by decide)
    obtain ⟨I, hI, hIn⟩ := at_range at_ a.ask.length hlen
    have hz2 := hw2.out.size
    obtain ⟨i0, hi0, hz0, hz1, hz2'⟩ := info_parts Try.info36
    have HT := Lib.hid (HR.out.take_ (k := I) hIn)
    rw [optCells_take] at HT
    obtain ⟨K, hKe, hK1, hK2⟩ : ∃ K : Int, wrap64 (100 + bits .and .i64 kind 63) = K ∧ 100 ≤ K ∧ K ≤ 163 := by
      obtain ⟨q1, q2⟩ := hK
      have q3 : 0 ≤ bits .and .i64 kind 63 := q1
      have q4 : bits .and .i64 kind 63 ≤ 63 := q2
      generalize bits .and .i64 kind 63 = k at *
      exact ⟨_, rfl, by unfold wrap64; omega, by unfold wrap64; omega⟩
    clear hK
    go_wp2_with (first | (go_at_call 11; refine (num_any _ _).mono ?_; rintro e w' ⟨rfl, rfl⟩) | (at_builtin; (try rw [hI]); (try simp only [Int.toNat_natCast]); refine wpList_append_any _ rfl _ _ _ rfl w2.heap.size 36 i0 _ 2 24 Try.underlying25 hi0 hz0 hz1 hz2' rfl (by omega) (.slice none 0 0) 0 [] rfl (World.ownsRow_nil _ _ _ _) w2.heap.size A I cp (optCells (a.ask.take I)) rfl HT.out (optCells_one_cell _) (by simp only [maxLen]; omega) (by omega) (Nat.le_refl _) ?_; intro v3 w3 hown3 hg3 hat3; have HB3 := Lib.hid (below_push (Below.refl w2.heap.size w2) (World.ownsRow_nil _ w2.heap.size 36 2) (Nat.le_refl _) (Nat.le_refl _) hg3); have OWN3 := Lib.hid hown3; clear hown3 hg3 hat3; skip) | (at_builtin;  refine wpList_push rfl rfl Try.underlying25 Try.info36 rfl (by decide) OWN3.out rfl rfl (by simp) rfl (by intro u hu; simp at hu; rcases hu with rfl | rfl <;> rfl) (by omega) (by omega) HB3.out.size ?_; intro v4 w4 hown4 hg4 hat4; have HB4 := Lib.hid (below_push HB3.out OWN3.out (Nat.le_refl _) HB3.out.size hg4); have OWN4 := Lib.hid hown4; clear hown4 hg4 hat4; have HD := Lib.hid ((HR.out.below HB4.out).cut (k := I) hIn hncp); rw [optCells_drop] at HD) | (at_builtin; go_must (refine wpList_append_any _ rfl _ _ _ rfl w2.heap.size 36 i0 _ 2 24 Try.underlying25 hi0 hz0 hz1 hz2' rfl (by omega) v4 (0 + I + 1) _ rfl OWN4.out w2.heap.size _ _ _ (optCells (a.ask.drop I)) rfl HD.out (optCells_one_cell _) (by simp only [maxLen]; omega) (by omega) HB4.out.size ?_); intro v5 w5 hown5 hg5 hat5; have HB5 := Lib.hid (below_push HB4.out OWN4.out (Nat.le_refl _) HB4.out.size hg5); have OWN5 := Lib.hid hown5; clear hown5 hg5 hat5))
    all_goals (
      obtain ⟨ALL, hALL⟩ : ∃ ALL, ALL = a.ask.take I ++ [⟨K, ⟨#[122, 122]⟩⟩] ++ a.ask.drop I := ⟨_, rfl⟩
      have hj0 := reject_one hma hK1 hK2 I
      rw [← hALL] at hj0
      have hnl : 0 + I + 1 + (a.ask.length - I) = ALL.length := by rw [hALL]; simp; omega
      have own5 := OWN5.out
      have hcs : [] ++ optCells (List.take I a.ask) ++ [Value.int IntKind.i64 K, Value.string { data := #[122, 122] }] ++ optCells (List.drop I a.ask) = optCells ALL := by rw [hALL, optCells_append, optCells_append, optCells_one]; rfl
      rw [hnl, hcs] at own5
      have hAl : ALL.length ≤ 7 := by omega
      obtain ⟨A5, c5, rfl, hn5, hm5, _⟩ := own_shape own5
      have HJ := judge_any ownS A5 ALL.length c5 ALL (w5.alloc (.cells ownS.cells 23)) (Reads.of_own (own5.alloc _)) rfl (by omega) hn5
      have hown1 := LinkAt.new w5 ownS
      rw [hj0] at HJ
      refine HJ.mono ?_
      clear HJ hALL hnl hcs OWN5 OWN4 OWN3 HD HT
      rintro e w6 ⟨v6, rfl, hk6⟩
      try subst ‹cp = I›
      have hb6 := Lib.hid (below_trans' (HB5.out.alloc HB5.out.size (.cells ownS.cells 23)) (by have := HB5.out.size; simp; omega) hk6.below)
      have hs6 := Lib.hid (LinkAt.below hown1 hk6.below)
      have own6 := hk6.own
      rw [hj0] at own6
      obtain ⟨A6, c6, rfl, hn6, hm6, _⟩ := own_shape own6
      have OWN6 := Lib.hid own6
      clear hk6 own6 hown1 own5 HB5 HB4 HB3 hj0
      have hsame := fun g hg => same_any [⟨K, ⟨#[122, 122]⟩⟩] [⟨K, ⟨#[122, 122]⟩⟩] A6 (some ⟨g, 0, none⟩) 1 1 c6 1 (w6.alloc (.cells #[.int .i64 K, .string ⟨#[122, 122]⟩] 36)) (Reads.of_own (OWN6.out.alloc _)) rfl (by omega) (reads_one' w6 ⟨K, ⟨#[122, 122]⟩⟩ g hg) rfl (by omega)
      go_wp2_with (first | (go_at_call 11; refine (num_any _ _).mono ?_; rintro e w' ⟨rfl, rfl⟩) | (go_at_call 15; refine (hsame _ rfl).mono ?_; rintro e w7 ⟨rfl, hk7⟩; have hb7 := Lib.hid (below_trans' (hb6.out.alloc hb6.out.size (.cells #[.int .i64 K, .string ⟨#[122, 122]⟩] 36)) (by have := hb6.out.size; simp; omega) hk7); have hs7 := Lib.hid (LinkAt.below (LinkAt.alloc hs6.out (.cells #[.int .i64 K, .string ⟨#[122, 122]⟩] 36)) hk7); clear hk7 hs6 hb6 hsame OWN6) | (at_builtin; refine wpList_append_any _ rfl _ _ _ rfl w7.heap.size 36 i0 _ 2 24 Try.underlying25 hi0 hz0 hz1 hz2' rfl (by omega) (.slice (some ⟨w7.heap.size, 0, none⟩) 0 0) 0 [] rfl (own_empty w7) w2.heap.size A a.ask.length _ (optCells a.ask) rfl ((HR.out.below hb7.out).alloc hb7.out.size _) (optCells_one_cell _) (by simp only [maxLen]; omega) (by omega) (by simp) ?_; intro v8 w8 hown8 hg8 hat8; have HB8 := Lib.hid (below_push (hb7.out.alloc hb7.out.size (.cells #[] 36)) (own_empty w7) hb7.out.size (by simp) hg8); have HS8 := Lib.hid (below_push ((Below.refl w7.heap.size w7).alloc (Nat.le_refl _) (.cells #[] 36)) (own_empty w7) (Nat.le_refl _) (by simp) hg8); have OWN8 := Lib.hid hown8; have hpos9 : 0 < a.ask.length := (by have := beq_eq_false_iff_ne.1 ‹((a.ask.length : Int) == 0) = false›; omega); obtain ⟨ad, rfl, hbl, q0, q1⟩ := opt_at HR.out HB8.out 0 hpos9 rfl; have q2 : w8.cell? ad = _ := q0; have q3 : w8.cell? ⟨ad.block, ad.off + 1, none⟩ = _ := q1; clear hown8 hg8 hat8 q0 q1) | (at_builtin; go_must (refine wpList_push rfl rfl Try.underlying25 Try.info36 rfl (by decide) OWN8.out rfl rfl (by simp) rfl (by intro u hu; simp at hu; rcases hu with rfl | rfl <;> rfl) (by omega) (by omega) HS8.out.size ?_); intro v9 w9 hown9 hg9 hat9; have HB9 := Lib.hid (below_push HB8.out OWN8.out hb7.out.size HS8.out.size hg9); have HS9 := Lib.hid (below_push HS8.out OWN8.out (Nat.le_refl _) HS8.out.size hg9); have OWN9 := Lib.hid hown9; clear hown9 hg9 hat9 q2 q3; obtain ⟨l0, l1, l2, l3, l4, l5⟩ := (LinkAt.below hs7.out HS9.out).cells; simp only [ownS] at l0 l1 l2 l3 l4 l5))
      · go_ret
        exact ⟨rfl, below_trans' hw2.out hz2 hb7.out⟩
      obtain ⟨o, ho⟩ : ∃ o, o = a.ask[0] := ⟨_, rfl⟩
      have own9 := OWN9.out
      have hmem : o ∈ a.ask := by rw [ho]; exact List.getElem_mem _
      have hj0 := reject_twice hma hmem
      have ht0 := taken_twice hmem
      have hcs : [] ++ optCells a.ask ++ [Value.int IntKind.i64 (a.ask[0]).kind, Value.string (a.ask[0]).data] = optCells (a.ask ++ [o]) := by rw [optCells_append, optCells_one, ho]; rfl
      have hcs' : [] ++ optCells a.ask ++ (#[Value.int IntKind.i64 (a.ask[0]).kind, Value.string (a.ask[0]).data] : Array Value).toList = optCells (a.ask ++ [o]) := hcs
      rw [hcs', show 0 + a.ask.length + 1 = (a.ask ++ [o]).length by simp] at own9
      have hd1 : [o] = a.ask.take 1 := by
        rw [ho]
        exact take_first _ _
      have hdd : ∀ x ∈ a.ask ++ [o], x.data.size ≤ 140737488351232 := by
        intro x hx
        rcases List.mem_append.1 hx with h | h
        · have := ask_small hma h; omega
        · have h : x = o := by simpa using h
          have := ask_small hma hmem
          rw [h]; omega
      have hTl : (a.ask ++ [o]).length ≤ 7 := by simp; omega
      have hone := Lib.hid (show Reads w2 w2.heap.size 2 (some ad) 1 (optCells [o]) by
        have := HR.out.take_ (k := 1) (by rw [← hd1.symm.trans rfl.symm] at *; have := List.length_pos_of_mem hmem; omega)
        rw [optCells_take, ← hd1] at this
        exact this)
      clear hd1
      obtain ⟨TW, hTW⟩ : ∃ TW, TW = a.ask ++ [o] := ⟨_, rfl⟩
      rw [← hTW] at own9 hj0 ht0 hdd hTl
      clear hTW hcs hcs' hmem ho
      obtain ⟨A9, c9, rfl, hn9, hm9, _⟩ := own_shape own9
      have HJ := judge_any ownS A9 TW.length c9 TW w9 (Reads.of_own own9) rfl (by omega) hn9
      rw [hj0] at HJ
      refine HJ.mono ?_
      clear HJ l0 l1 l2 l3 l4 l5
      rintro e w10 ⟨v10, rfl, hk10⟩
      have own10 := hk10.own
      rw [hj0] at own10
      obtain ⟨A10, c10, rfl, hn10, hm10, _⟩ := own_shape own10
      have hb10 := Lib.hid (below_trans' HB9.out HB9.out.size hk10.below)
      have OWN10 := Lib.hid own10
      have OWN11 := Lib.hid (own_below own9 hk10.below)
      clear hk10 own10 own9 OWN9 hj0 OWN8 HS8 HB8 HB9 HS9
      have HT := taken_any TW A9 TW.length c9 w10 (Reads.of_own OWN11.out) rfl (by omega) hn9 hdd
      rw [ht0] at HT
      go_wp2_with fail
      refine HT.mono ?_
      clear HT
      rintro e w11 ⟨rfl, hk11⟩
      have hb11 := Lib.hid ((below_trans' hb10.out hb10.out.size hk11).alloc (below_trans' hb10.out hb10.out.size hk11).size (.cells zeroL.cells 23))
      have OWN12 := Lib.hid ((own_below OWN10.out hk11).alloc (.cells zeroL.cells 23))
      have hsame := same_any [o] [o] A10 (some ad) 1 1 c10 cp (w11.alloc (.cells zeroL.cells 23)) (Reads.of_own OWN12.out) rfl (by omega) ((hone.out.below hb11.out).more hb11.out.size) rfl (by omega)
      clear hk11
      simp only [LinkD.cells]
      go_wp2_with (first | (go_at_call 11; refine (num_any _ _).mono ?_; rintro e w' ⟨rfl, rfl⟩) | (go_at_call 15; refine hsame.mono ?_; rintro e w12 ⟨rfl, hk12⟩))
      go_ret
      exact ⟨ret_bool (by simp), below_trans' hw2.out hz2 (below_trans' hb11.out hb11.out.size hk12)⟩)

set_option maxRecDepth 100000 in
theorem policyRejects_lifted (os : Os) (started : os.Started) (H : Type) (enc : TypeId × Value → H) :
    ReturnsInHanded {} Try.checked os 6 .any (Rows.policyRejectsSpec.pre6 enc Try.prog Try.f6 Rows.policyRejectsRow.domain false) (Rows.policyRejectsSpec.post enc Try.prog Try.f6 false true false false) := by
  refine returnsInHanded_of_change (C := Try.checked) own_knob started (by kernel_rfl) Try.func6
    (ChangeSpec.witness6 (enc := enc) (C := Try.checked) false ⟨#[], #[.agg #[.int .i64 0, .int .i64 0, .int .i64 0, .bool false, .string ⟨#[]⟩, .int .i64 0], .int .i64 0, .int .i64 0], []⟩ 8 (by kernel_rfl) (by kernel_rfl) (by kernel_rfl) (by kernel_rfl)) ?_
  intro W base args ds gs before hval0 hW hcnd _
  have hval : ∀ (j : Nat) t v, Try.f6.params[j]? = some t → args[j]? = some v → Value.okWide Try.prog W .any base t v := hval0
  have hW' := hW
  obtain ⟨p, q, hA0, hV, rfl, hfz, hnd⟩ := hW
  have hA : DataW.TrodAll enc Try.prog W 0 (fun _ => true) true Try.f6.params.toList args.toList ds p := hA0
  rw [Try.params6] at hA hval
  obtain ⟨v0, vs0, d0, ds0, p0, q0, hargs, rfl, rfl, h0, r0⟩ := trodAll_cons hA
  obtain ⟨v1, vs1, d1, ds1, p1, q1, rfl, rfl, rfl, h1, r1⟩ := trodAll_cons r0
  obtain ⟨v2, vs2, d2, ds2, p2, q2, rfl, rfl, rfl, h2, r2⟩ := trodAll_cons r1
  obtain ⟨rfl, rfl, rfl⟩ := trodAll_nil r2
  obtain rfl : args = #[v0, v1, v2] := by cases args; simp_all
  obtain ⟨rfl, rfl⟩ := trodVars_none hV
  have k0 := h0
  obtain ⟨a, rfl⟩ := open_link (hval 0 23 v0 rfl rfl) h0
  have k1 := h1
  obtain ⟨kind, rfl, rfl, rfl, w1⟩ := open_int Try.underlying3 (hval 1 3 v1 rfl rfl) h1
  have k2 := h2
  obtain ⟨at_, rfl, rfl, rfl, w2⟩ := open_int Try.underlying3 (hval 2 3 v2 rfl rfl) h2
  clear hA0 hval0
  refine (walk_policyRejects a kind at_ W).mono fun e W' ⟨he, bel⟩ => ?_
  subst he
  exact ⟨_, rfl, _, _, _, [], _, [], hW', trodAll_cons_mk (shut_bool Try.underlying4 _) trodAll_mk0, (trodAll_cons_mk (Below.trod laid_out (by kernel_rfl) (of_decide_eq_true (by kernel_rfl)) k0 bel (trod_below k0)) (trodAll_cons_mk (Below.trod laid_out (by kernel_rfl) (of_decide_eq_true (by kernel_rfl)) k1 bel (trod_below k1)) (trodAll_cons_mk (Below.trod laid_out (by kernel_rfl) (of_decide_eq_true (by kernel_rfl)) k2 bel (trod_below k2)) trodAll_mk0))), rfl, bel.frame _, fun h => by cases h⟩

theorem policyRejects_holds : Rows.PolicyRejectsSaid :=
  OpenClaim.holds_of_wide 6 Try.f6 rfl rfl rfl rfl rfl rfl rfl ⟨rfl, rfl, rfl, rfl, rfl⟩ rfl rfl rfl rfl rfl (by kernel_rfl) Try.func6 (by kernel_rfl)
    (of_decide_eq_true (by kernel_rfl)) (by unfold Func.isWrapper; first | (rw [if_pos (by decide +kernel)]; kernel_rfl) | (rw [if_neg (by decide +kernel)]; exact ⟨rfl, rfl⟩))
    (fun os started H enc _ => policyRejects_lifted os started H enc)
#print axioms policyRejects_holds
end Go.Proofs.Ythlfghheciamcaa
