import Derived.Test.YtncllenandjphaaInList
import Derived.Test.YtncllenandjphaaFvSort
namespace Go.Fw
open Go.Proofs Go.Shelf Go.Sort
def sort_ren : Ren where
  f := fun | 6 => 25 | 15 => 28 | 14 => 27 | 28 => 37 | 29 => 38 | 20 => 29 | 21 => 30 | 22 => 31 | 23 => 32 | 24 => 33 | 25 => 34 | 26 => 35 | 27 => 36 | 46 => 39 | 47 => 40 | 48 => 41 | 49 => 42 | 50 => 43 | 57 => 44 | n => n
  t := fun | 22 => 29 | 24 => 25 | 25 => 53 | 3 => 3 | 39 => 57 | 0 => 0 | 53 => 67 | 55 => 69 | 4 => 4 | 46 => 60 | 45 => 59 | 50 => 64 | 5 => 5 | 9 => 9 | 66 => 70 | 70 => 74 | 76 => 76 | 77 => 77 | n => n
  g := fun n => n
theorem sort_lays : SlLaysF0.n6 Try.prog sort_ren where
  mixed := by kernel_rfl
  f6 := Exists.intro Try.f25.name (And.intro (by kernel_rfl) (Eq.trans Try.func25 (congrArg some rfl)))
  f14 := Exists.intro Try.f27.name (And.intro (by kernel_rfl) (Eq.trans Try.func27 (congrArg some rfl)))
  f15 := Eq.trans Try.func28 (congrArg some rfl)
  f20 := Exists.intro Try.f29.name (And.intro (by kernel_rfl) (Eq.trans Try.func29 (congrArg some rfl)))
  f21 := Exists.intro Try.f30.name (And.intro (by kernel_rfl) (Eq.trans Try.func30 (congrArg some rfl)))
  f22 := Exists.intro Try.f31.name (And.intro (by kernel_rfl) (Eq.trans Try.func31 (congrArg some rfl)))
  f23 := Exists.intro Try.f32.name (And.intro (by kernel_rfl) (Eq.trans Try.func32 (congrArg some rfl)))
  f24 := Exists.intro Try.f33.name (And.intro (by kernel_rfl) (Eq.trans Try.func33 (congrArg some rfl)))
  f25 := Exists.intro Try.f34.name (And.intro (by kernel_rfl) (Eq.trans Try.func34 (congrArg some rfl)))
  f26 := Exists.intro Try.f35.name (And.intro (by kernel_rfl) (Eq.trans Try.func35 (congrArg some rfl)))
  f27 := Exists.intro Try.f36.name (And.intro (by kernel_rfl) (Eq.trans Try.func36 (congrArg some rfl)))
  f28 := Eq.trans Try.func37 (congrArg some rfl)
  f29 := Eq.trans Try.func38 (congrArg some rfl)
  f46 := Exists.intro Try.f39.name (And.intro (by kernel_rfl) (Eq.trans Try.func39 (congrArg some rfl)))
  f47 := Eq.trans Try.func40 (congrArg some rfl)
  f48 := Eq.trans Try.func41 (congrArg some rfl)
  f49 := Exists.intro Try.f42.name (And.intro (by kernel_rfl) (Eq.trans Try.func42 (congrArg some rfl)))
  f50 := Exists.intro Try.f43.name (And.intro (by kernel_rfl) (Eq.trans Try.func43 (congrArg some rfl)))
  f57 := Exists.intro Try.f44.name (And.intro (by kernel_rfl) (Eq.trans Try.func44 (congrArg some rfl)))
  t0 := Try.underlying0
  a0 := Try.isAgg0
  z0 := Try.sizeOf0
  v0 := Try.zeroValue0
  t3 := Try.underlying3
  a3 := Try.isAgg3
  z3 := Try.sizeOf3
  v3 := Try.zeroValue3
  t4 := Try.underlying4
  a4 := Try.isAgg4
  z4 := Try.sizeOf4
  v4 := Try.zeroValue4
  t5 := Try.underlying5
  a5 := Try.isAgg5
  z5 := Try.sizeOf5
  v5 := Try.zeroValue5
  t9 := Try.underlying9
  a9 := Try.isAgg9
  z9 := Try.sizeOf9
  v9 := Try.zeroValue9
  t22 := Try.underlying29
  a22 := Try.isAgg29
  z22 := Try.sizeOf29
  v22 := Try.zeroValue29
  t25 := Try.underlying53
  a25 := Try.isAgg53
  z25 := Try.sizeOf53
  v25 := Try.zeroValue53
  t39 := Try.underlying57
  a39 := Try.isAgg57
  z39 := Try.sizeOf57
  v39 := Try.zeroValue57
  t45 := Try.underlying59
  a45 := Try.isAgg59
  z45 := Try.sizeOf59
  v45 := Try.zeroValue59
  t46 := Try.underlying60
  a46 := Try.isAgg60
  z46 := Try.sizeOf60
  v46 := Try.zeroValue60
  t50 := Try.underlying64
  a50 := Try.isAgg64
  z50 := Try.sizeOf64
  v50 := Try.zeroValue64
  t53 := Try.underlying67
  a53 := Try.isAgg67
  z53 := Try.sizeOf67
  v53 := Try.zeroValue67
  t55 := Try.underlying69
  a55 := Try.isAgg69
  z55 := Try.sizeOf69
  v55 := Try.zeroValue69
  t66 := Try.underlying70
  a66 := Try.isAgg70
  z66 := Try.sizeOf70
  v66 := Try.zeroValue70
  t70 := Try.underlying74
  a70 := Try.isAgg74
  z70 := Try.sizeOf74
  v70 := Try.zeroValue74
  t76 := Try.underlying76
  a76 := Try.isAgg76
  z76 := Try.sizeOf76
  v76 := Try.zeroValue76
  t77 := Try.underlying77
  a77 := Try.isAgg77
  z77 := Try.sizeOf77
  v77 := Try.zeroValue77

def lt2 (x y : Int × Int) : Prop := x.1 < y.1 ∨ x.1 = y.1 ∧ x.2 < y.2
instance (x y : Int × Int) : Decidable (lt2 x y) := by unfold lt2; exact inferInstance
def cf2 (x y : Int × Int) : Int := if lt2 x y then -1 else 1
theorem lt_cf2 (x y : Int × Int) : ltOf cf2 x y = decide (lt2 x y) := by
  unfold ltOf cf2
  by_cases h : lt2 x y <;> simp [h]
theorem swo2 : SWO (ltOf cf2) where
  irrefl x := by rw [lt_cf2]; simp [lt2]
  trans x y z h1 h2 := by rw [lt_cf2] at *; simp only [decide_eq_true_eq] at *; unfold lt2 at *; omega
  ntrans x y z h1 h2 := by rw [lt_cf2] at *; simp only [decide_eq_false_iff_not] at *; unfold lt2 at *; omega
theorem cmp_spec (x y : Int × Int) (m : Mem) : MC Try.prog 26 [ip x, ip y] m fun v m' => v = .int .i64 (cf2 x y) ∧ Fr m m' [] := by
  refine MC_start Try.func26 cmp__ok (by kernel_rfl) (by simp [Try.f26]) ?_
  simp (disch := omega) only [go_sem, ip]
  refine newP_intro fun b1 hb1 => ?_
  simp (disch := omega) only [go_sem]
  refine newP_intro fun b2 hb2 => ?_
  have hn := ne_new hb2
  have hf : Fr m ((m.set b1 (Obj.cells #[Value.int IntKind.i64 x.1, Value.int IntKind.i64 x.2] 25)).set b2 (Obj.cells #[Value.int IntKind.i64 y.1, Value.int IntKind.i64 y.2] 25)) [] := (Fr.new _ hb1).trans0 (Fr.new _ hb2)
  generalize hM : (m.set b1 (Obj.cells #[Value.int IntKind.i64 x.1, Value.int IntKind.i64 x.2] 25)).set b2 (Obj.cells #[Value.int IntKind.i64 y.1, Value.int IntKind.i64 y.2] 25) = M at hf ⊢
  have h1 : M b1 = some (Obj.cells #[Value.int IntKind.i64 x.1, Value.int IntKind.i64 x.2] 25) := by rw [← hM, set_ne _ _ _ (Ne.symm hn), set_self]
  have h2 : M b2 = some (Obj.cells #[Value.int IntKind.i64 y.1, Value.int IntKind.i64 y.2] 25) := by rw [← hM, set_self]
  clear hM hb1 hb2
  simp (disch := omega) only [go_sem, h1, h2]
  refine call_with (less_spec x.1 x.2 y.1 y.2 M) ?_
  rintro v M2 ⟨rfl, f2⟩
  simp (disch := omega) only [go_sem]
  refine condB_dec (fun h => ?_) (fun h => ?_)
  · simp (disch := omega) only [go_sem]
    exact ⟨by rw [cf2, if_pos (show lt2 x y from h)], hf.trans0 f2⟩
  · simp (disch := omega) only [go_sem]
    exact ⟨by rw [cf2, if_neg (show ¬ lt2 x y from h)], hf.trans0 f2⟩

/-! the nil row -/
theorem blen64_0 (m : Mem) : MC Try.prog 38 [.int .u64 0] m fun v m' => (∃ k : Int, v = .int .i64 k) ∧ m' = m := by
  refine MC_start Try.func38 blen64__ok (by kernel_rfl) (by simp [Try.f38]) ?_
  simp (disch := omega) only [go_sem]
  simp (disch := omega) only [go_sem, show rd .idxs [.string Lib.len8tab, .int .u8 (IntKind.u8.wrap 0)] m = some (.int .u8 0) from by kernel_rfl]
  exact ⟨⟨_, rfl⟩, rfl⟩
theorem blen_0 (m : Mem) : MC Try.prog 28 [.int .u64 (IntKind.u64.wrap 0)] m fun v m' => (∃ k : Int, v = .int .i64 k) ∧ m' = m := by
  refine MC_start Try.func28 blen__ok (by kernel_rfl) (by simp [Try.f28]) ?_
  simp (disch := omega) only [go_sem, show IntKind.u64.wrap 0 = 0 from rfl]
  refine call_with (blen64_0 m) ?_
  rintro v m' ⟨⟨k, rfl⟩, rfl⟩
  simp (disch := omega) only [go_sem]
  exact ⟨⟨k, rfl⟩, rfl⟩
theorem ins_0 (a f : Value) (m : Mem) : MC Try.prog 29 [a, .int .i64 0, .int .i64 0, f] m fun v m' => v = .tuple #[] ∧ m' = m := by
  refine MC_start Try.func29 ins__ok (by kernel_rfl) (by simp [Try.f29]) ?_
  simp (disch := omega) only [go_sem]
  refine loopQ_intro (fun _ E m' => E = [(0, a), (1, .int .i64 0), (2, .int .i64 0), (3, f), (8, .int .i64 1)] ∧ m' = m) 0 rfl ⟨by simp [only, Env.get], rfl⟩ ?_
  rintro n E m' ⟨rfl, rfl⟩
  simp (disch := omega) only [go_sem]
  exact ⟨rfl, rfl⟩
theorem pdq_0 (a f : Value) (k : Int) (m : Mem) : MC Try.prog 27 [a, .int .i64 0, .int .i64 0, .int .i64 k, f] m fun v m' => v = .tuple #[] ∧ m' = m := by
  refine MC_start Try.func27 pdq__ok (by kernel_rfl) (by simp [Try.f27]) ?_
  simp (disch := omega) only [go_sem]
  refine loopQ_intro (fun _ E m' => E = [(0, a), (1, .int .i64 0), (2, .int .i64 0), (3, .int .i64 k), (4, f), (10, .bool true), (11, .bool true)] ∧ m' = m) 0 rfl ⟨by simp [only, Env.get], rfl⟩ ?_
  rintro n E m' ⟨rfl, rfl⟩
  simp (disch := omega) only [go_sem]
  refine call_with (ins_0 a f m') ?_
  rintro v m2 ⟨rfl, rfl⟩
  simp (disch := omega) only [go_sem]
  exact ⟨rfl, rfl⟩
theorem sort_nil (f : Value) (m : Mem) : MC Try.prog 25 [.slice none 0 0, f] m fun v m' => v = .tuple #[] ∧ m' = m := by
  refine MC_start Try.func25 sfunc__ok (by kernel_rfl) (by simp [Try.f25]) ?_
  simp (disch := omega) only [go_sem]
  refine call_with (blen_0 m) ?_
  rintro v m' ⟨⟨k, rfl⟩, rfl⟩
  simp (disch := omega) only [go_sem]
  refine call_with (pdq_0 _ f k m') ?_
  rintro v m2 ⟨rfl, rfl⟩
  simp (disch := omega) only [go_sem]
  exact ⟨rfl, rfl⟩

theorem prs_flat (l : List (Int × Int)) : prs l = l.flatMap fun p => [Value.int .i64 p.1, .int .i64 p.2] := rfl
def Asc (l : List (Int × Int)) : Prop := l.Pairwise lt2
theorem sort_spec {m : Mem} {v : Value} {l : List (Int × Int)} (ho : Own m 25 2 v l.length (prs l)) (hnd : l.Nodup) (hl : l.length < 2 ^ 40) :
    MC Try.prog 25 [v, .func (.func 26) #[] #[]] m fun u m' => u = .tuple #[] ∧ ∃ l', l'.Perm l ∧ Asc l' ∧ Own m' 25 2 v l'.length (prs l') ∧ Fr m m' (blkOf v) := by
  obtain ⟨hlen, h | ⟨b, cap, tail, rfl, hb, hcap⟩⟩ := ho
  · obtain ⟨rfl, h0⟩ := h
    have : l = [] := List.eq_nil_of_length_eq_zero h0
    subst this
    refine (sort_nil _ m).mono ?_
    rintro u m' ⟨rfl, rfl⟩
    exact ⟨rfl, [], List.Perm.refl _, List.Pairwise.nil, Own.nil _ _ _, Fr.refl _ _⟩
  · have hs := sort_MC sort_lays 2 (by omega) Try.isAgg25 Try.sizeOf25 (fun p : Int × Int => [Value.int .i64 p.1, .int .i64 p.2]) (fun _ => rfl)
      (fun x v hv => by simp at hv; rcases hv with rfl | rfl <;> rfl) cf2 swo2 26 (enters_of Try.func26 (by kernel_rfl) rfl) (fun x y m => cmp_spec x y m) (cap := cap) (l := l) (tail := tail) hb (by omega)
    refine MC.mono hs ?_
    rintro u m' ⟨rfl, l', hp, hsorted, hb', hf⟩
    have hll := hp.length_eq
    refine ⟨rfl, l', hp, ?_, ⟨by rw [prs_len], .inr ⟨b, cap, tail, by rw [hll], hb', ?_⟩⟩, ?_⟩
    · have hnd' : l'.Nodup := hp.nodup_iff.2 hnd
      refine (List.Pairwise.and hsorted hnd').imp ?_
      rintro x y ⟨h1, h2⟩
      rw [lt_cf2] at h1
      simp only [decide_eq_false_iff_not] at h1
      unfold lt2 at *
      have : ¬ (x.1 = y.1 ∧ x.2 = y.2) := fun h => h2 (Prod.ext h.1 h.2)
      omega
    · rw [← hcap, List.length_append, List.length_append, prs_len, prs_len, hll]
    · simpa [blkOf] using hf
end Go.Fw
