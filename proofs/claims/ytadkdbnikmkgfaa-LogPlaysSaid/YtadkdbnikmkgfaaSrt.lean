import Derived.Test.YtadkdbnikmkgfaaFxSort
import Derived.Test.YtadkdbnikmkgfaaBsA
import Derived.Test.YtadkdbnikmkgfaaCdL
set_option linter.unusedSimpArgs false
set_option linter.unusedVariables false
namespace Go.Fw
open Go.Proofs Go.Shelf Go.Sort
def sort_ren : Ren where
  f := fun | 6 => 36 | 15 => 62 | 14 => 61 | 28 => 100 | 29 => 101 | 20 => 92 | 21 => 93 | 22 => 94 | 23 => 95 | 24 => 96 | 25 => 97 | 26 => 98 | 27 => 99 | 46 => 109 | 47 => 110 | 48 => 111 | 49 => 112 | 50 => 113 | 57 => 115 | n => n
  t := fun | 22 => 40 | 24 => 28 | 25 => 78 | 3 => 3 | 39 => 98 | 0 => 0 | 53 => 128 | 55 => 101 | 4 => 4 | 46 => 122 | 45 => 121 | 50 => 79 | 5 => 5 | 9 => 9 | 66 => 132 | 70 => 136 | 76 => 139 | 77 => 140 | n => n
  g := fun n => n
theorem sort_lays : SlLaysF0.n6 Try.prog sort_ren where
  mixed := by kernel_rfl
  f6 := Exists.intro Try.f36.name (And.intro (by kernel_rfl) (Eq.trans Try.func36 (congrArg some rfl)))
  f14 := Exists.intro Try.f61.name (And.intro (by kernel_rfl) (Eq.trans Try.func61 (congrArg some rfl)))
  f15 := Eq.trans Try.func62 (congrArg some rfl)
  f20 := Exists.intro Try.f92.name (And.intro (by kernel_rfl) (Eq.trans Try.func92 (congrArg some rfl)))
  f21 := Exists.intro Try.f93.name (And.intro (by kernel_rfl) (Eq.trans Try.func93 (congrArg some rfl)))
  f22 := Exists.intro Try.f94.name (And.intro (by kernel_rfl) (Eq.trans Try.func94 (congrArg some rfl)))
  f23 := Exists.intro Try.f95.name (And.intro (by kernel_rfl) (Eq.trans Try.func95 (congrArg some rfl)))
  f24 := Exists.intro Try.f96.name (And.intro (by kernel_rfl) (Eq.trans Try.func96 (congrArg some rfl)))
  f25 := Exists.intro Try.f97.name (And.intro (by kernel_rfl) (Eq.trans Try.func97 (congrArg some rfl)))
  f26 := Exists.intro Try.f98.name (And.intro (by kernel_rfl) (Eq.trans Try.func98 (congrArg some rfl)))
  f27 := Exists.intro Try.f99.name (And.intro (by kernel_rfl) (Eq.trans Try.func99 (congrArg some rfl)))
  f28 := Eq.trans Try.func100 (congrArg some rfl)
  f29 := Eq.trans Try.func101 (congrArg some rfl)
  f46 := Exists.intro Try.f109.name (And.intro (by kernel_rfl) (Eq.trans Try.func109 (congrArg some rfl)))
  f47 := Eq.trans Try.func110 (congrArg some rfl)
  f48 := Eq.trans Try.func111 (congrArg some rfl)
  f49 := Exists.intro Try.f112.name (And.intro (by kernel_rfl) (Eq.trans Try.func112 (congrArg some rfl)))
  f50 := Exists.intro Try.f113.name (And.intro (by kernel_rfl) (Eq.trans Try.func113 (congrArg some rfl)))
  f57 := Exists.intro Try.f115.name (And.intro (by kernel_rfl) (Eq.trans Try.func115 (congrArg some rfl)))
  t0 := Try.underlying0
  a0 := Try.isAgg0
  z0 := Try.sizeOf0
  v0 := Try.zeroValue0
  t3 := Try.underlying3
  a3 := Try.isAgg3
  z3 := Try.sizeOf3
  v3 := Try.zeroValue3
  t4 := Try.underlying4
  a4 := Try.isAgg4
  z4 := Try.sizeOf4
  v4 := Try.zeroValue4
  t5 := Try.underlying5
  a5 := Try.isAgg5
  z5 := Try.sizeOf5
  v5 := Try.zeroValue5
  t9 := Try.underlying9
  a9 := Try.isAgg9
  z9 := Try.sizeOf9
  v9 := Try.zeroValue9
  t22 := Try.underlying40
  a22 := Try.isAgg40
  z22 := Try.sizeOf40
  v22 := Try.zeroValue40
  t25 := Try.underlying78
  a25 := Try.isAgg78
  z25 := Try.sizeOf78
  v25 := Try.zeroValue78
  t39 := Try.underlying98
  a39 := Try.isAgg98
  z39 := Try.sizeOf98
  v39 := Try.zeroValue98
  t45 := Try.underlying121
  a45 := Try.isAgg121
  z45 := Try.sizeOf121
  v45 := Try.zeroValue121
  t46 := Try.underlying122
  a46 := Try.isAgg122
  z46 := Try.sizeOf122
  v46 := Try.zeroValue122
  t50 := Try.underlying79
  a50 := Try.isAgg79
  z50 := Try.sizeOf79
  v50 := Try.zeroValue79
  t53 := Try.underlying128
  a53 := Try.isAgg128
  z53 := Try.sizeOf128
  v53 := Try.zeroValue128
  t55 := Try.underlying101
  a55 := Try.isAgg101
  z55 := Try.sizeOf101
  v55 := Try.zeroValue101
  t66 := Try.underlying132
  a66 := Try.isAgg132
  z66 := Try.sizeOf132
  v66 := Try.zeroValue132
  t70 := Try.underlying136
  a70 := Try.isAgg136
  z70 := Try.sizeOf136
  v70 := Try.zeroValue136
  t76 := Try.underlying139
  a76 := Try.isAgg139
  z76 := Try.sizeOf139
  v76 := Try.zeroValue139
  t77 := Try.underlying140
  a77 := Try.isAgg140
  z77 := Try.sizeOf140
  v77 := Try.zeroValue140

def cf2 (x y : Int × Int) : Int := if lt2 x y then -1 else 1
theorem lt_cf2 (x y : Int × Int) : ltOf cf2 x y = decide (lt2 x y) := by
  unfold ltOf cf2
  by_cases h : lt2 x y <;> simp [h]
theorem swo2 : SWO (ltOf cf2) where
  irrefl x := by rw [lt_cf2]; simp [lt2]
  trans x y z h1 h2 := by rw [lt_cf2] at *; simp only [decide_eq_true_eq] at *; unfold lt2 at *; omega
  ntrans x y z h1 h2 := by rw [lt_cf2] at *; simp only [decide_eq_false_iff_not] at *; unfold lt2 at *; omega
/-! the nil row -/
theorem blen64_0 (m : Mem) : MC Try.prog n_math_bits_Len64 [.int .u64 0] m fun v m' => (∃ k : Int, v = .int .i64 k) ∧ m' = m := by
  refine math_bits_Len64_go (by simp [Try.f33]) ?_
  simp (disch := omega) only [go_sem]
  simp (disch := omega) only [go_sem, show rd .idxs [.string Lib.len8tab, .int .u8 (IntKind.u8.wrap 0)] m = some (.int .u8 0) from by kernel_rfl]
  exact ⟨⟨_, rfl⟩, rfl⟩
theorem blen_0 (m : Mem) : MC Try.prog n_math_bits_Len [.int .u64 (IntKind.u64.wrap 0)] m fun v m' => (∃ k : Int, v = .int .i64 k) ∧ m' = m := by
  refine math_bits_Len_go (by simp [Try.f33]) ?_
  simp (disch := omega) only [go_sem, show IntKind.u64.wrap 0 = 0 from rfl]
  refine call_with (blen64_0 m) ?_
  rintro v m' ⟨⟨k, rfl⟩, rfl⟩
  simp (disch := omega) only [go_sem]
  exact ⟨⟨k, rfl⟩, rfl⟩
theorem ins_0 (a f : Value) (m : Mem) : MC Try.prog n_slices_insertionSortCmpFunc_api_Inst [a, .int .i64 0, .int .i64 0, f] m fun v m' => v = .tuple #[] ∧ m' = m := by
  refine slices_insertionSortCmpFunc_api_Inst_go (by simp [Try.f33]) ?_
  simp (disch := omega) only [go_sem]
  refine loopQ_intro (fun _ E m' => E = [(0, a), (1, .int .i64 0), (2, .int .i64 0), (3, f), (8, .int .i64 1)] ∧ m' = m) 0 rfl ⟨by simp [only, Env.get], rfl⟩ ?_
  rintro n E m' ⟨rfl, rfl⟩
  simp (disch := omega) only [go_sem]
  exact ⟨rfl, rfl⟩
theorem pdq_0 (a f : Value) (k : Int) (m : Mem) : MC Try.prog n_slices_pdqsortCmpFunc_api_Inst [a, .int .i64 0, .int .i64 0, .int .i64 k, f] m fun v m' => v = .tuple #[] ∧ m' = m := by
  refine slices_pdqsortCmpFunc_api_Inst_go (by simp [Try.f33]) ?_
  simp (disch := omega) only [go_sem]
  refine loopQ_intro (fun _ E m' => E = [(0, a), (1, .int .i64 0), (2, .int .i64 0), (3, .int .i64 k), (4, f), (10, .bool true), (11, .bool true)] ∧ m' = m) 0 rfl ⟨by simp [only, Env.get], rfl⟩ ?_
  rintro n E m' ⟨rfl, rfl⟩
  simp (disch := omega) only [go_sem]
  refine call_with (ins_0 a f m') ?_
  rintro v m2 ⟨rfl, rfl⟩
  simp (disch := omega) only [go_sem]
  exact ⟨rfl, rfl⟩
theorem sort_nil (f : Value) (m : Mem) : MC Try.prog n_slices_SortFunc_api_Inst_api_Inst [.slice none 0 0, f] m fun v m' => v = .tuple #[] ∧ m' = m := by
  refine slices_SortFunc_api_Inst_api_Inst_go (by simp [Try.f33]) ?_
  simp (disch := omega) only [go_sem]
  refine call_with (blen_0 m) ?_
  rintro v m' ⟨⟨k, rfl⟩, rfl⟩
  simp (disch := omega) only [go_sem]
  refine call_with (pdq_0 _ f k m') ?_
  rintro v m2 ⟨rfl, rfl⟩
  simp (disch := omega) only [go_sem]
  exact ⟨rfl, rfl⟩
abbrev prs (l : List (Int × Int)) : List Value := l.flatMap pc
theorem prs_len (l : List (Int × Int)) : (prs l).length = l.length * 2 := by
  induction l with
  | nil => rfl
  | cons p r ih => simp only [prs, List.flatMap_cons, List.length_append, pc_len, List.length_cons] at *; omega
abbrev Asc (l : List (Int × Int)) : Prop := l.Pairwise lt2
theorem sort_Inst_s {m : Mem} {v : Value} {l : List (Int × Int)} {g : Nat} (eg : ∀ args w, (callFunc g args).run Try.prog w = .ok (.enter g args) w) (hcmp : ∀ x y m, MC Try.prog g [pv x, pv y] m fun v m' => v = .int .i64 (cf2 x y) ∧ Fr m m' [])
    (ho : Own m T_api_Inst 2 v l.length (prs l)) (hnd : l.Nodup) (hl : l.length < 2 ^ 40) :
    MC Try.prog n_slices_SortFunc_api_Inst_api_Inst [v, .func (.func g) #[] #[]] m fun u m' => (u = .tuple #[] ∧ ∃ l', l'.Perm l ∧ Asc l' ∧ Own m' T_api_Inst 2 v l'.length (prs l')) ∧ Fr m m' (blkOf v) := by
  obtain ⟨hlen, h | ⟨b, cap, tail, rfl, hb, hcap⟩⟩ := ho
  · obtain ⟨rfl, h0⟩ := h
    have : l = [] := List.eq_nil_of_length_eq_zero h0
    subst this
    refine (sort_nil _ m).mono ?_
    rintro u m' ⟨rfl, rfl⟩
    exact ⟨⟨rfl, [], List.Perm.refl _, List.Pairwise.nil, Own.nil _ _ _⟩, Fr.refl _ _⟩
  · have hs := sort_MC sort_lays 2 (by omega) Try.isAgg28 Try.sizeOf28 pc (fun _ => rfl)
      (fun x v hv => List.all_eq_true.1 (pc_one x) v hv) cf2 swo2 g eg hcmp (cap := cap) (l := l) (tail := tail) hb (by omega)
    refine MC.mono hs ?_
    rintro u m' ⟨rfl, l', hp, hsorted, hb', hf⟩
    have hll := hp.length_eq
    refine ⟨⟨rfl, l', hp, ?_, ⟨by rw [prs_len], .inr ⟨b, cap, tail, by rw [hll], hb', ?_⟩⟩⟩, ?_⟩
    · have hnd' : l'.Nodup := hp.nodup_iff.2 hnd
      refine (List.Pairwise.and hsorted hnd').imp ?_
      rintro x y ⟨h1, h2⟩
      rw [lt_cf2] at h1
      simp only [decide_eq_false_iff_not] at h1
      unfold lt2 at *
      have : ¬ (x.1 = y.1 ∧ x.2 = y.2) := fun h => h2 (Prod.ext h.1 h.2)
      omega
    · rw [← hcap, List.length_append, List.length_append, prs_len, prs_len, hll]
    · simpa [blkOf] using hf
end Go.Fw
