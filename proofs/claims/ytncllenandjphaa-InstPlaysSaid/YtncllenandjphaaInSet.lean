import Derived.Test.YtncllenandjphaaInSmall
namespace Go.Fw
open Go.Proofs
/-- instances as values -/
def ip (p : Int × Int) : Value := .agg #[.int .i64 p.1, .int .i64 p.2]
theorem ip_enc : KeyEnc true [.i .i64, .i .i64] ip where
  fit x := rfl
  eq x y := by
    show leafEq _ [.int .i64 x.1, .int .i64 x.2] [.int .i64 y.1, .int .i64 y.2] = _
    simp only [leafEq_cons, le1_i, Option.bind_some, leafEq_nil, Option.map_some, Bool.and_true, Option.some.injEq]
    rw [Bool.eq_iff_iff]
    simp [Prod.ext_iff]
def un (l : List (Int × Int)) : List ((Int × Int) × Value) := l.map fun p => (p, .agg #[])
def addL (l : List (Int × Int)) (k : Int × Int) : List (Int × Int) := if k ∈ l then l else l ++ [k]
theorem keys_un (l : List (Int × Int)) : keysOf (un l) = l := by simp [keysOf, un, List.map_map, Function.comp_def]
theorem upd_un (k : Int × Int) (l : List (Int × Int)) : updM k (.agg #[]) (un l) = un (addL l k) := by
  unfold updM addL
  rw [keys_un]
  split
  · rename_i hk
    simp only [un, List.map_map]
    refine List.map_congr_left fun p _ => ?_
    simp only [Function.comp]
    split
    · rename_i e; rw [e]
    · rfl
  · simp [un]
theorem del_un (k : Int × Int) (l : List (Int × Int)) : delM k (un l) = un (l.filter (· ≠ k)) := by
  unfold delM un
  rw [List.filter_map]; rfl
theorem look_un (k : Int × Int) (l : List (Int × Int)) : look k (un l) = if k ∈ l then some (.agg #[]) else none := by
  cases h : look k (un l) with
  | none => rw [look_none, keys_un] at h; rw [if_neg h]
  | some v =>
    have h1 := look_some h
    obtain ⟨p, hp, e⟩ := List.mem_map.1 h1
    simp only [Prod.mk.injEq] at e
    rw [if_pos (e.1 ▸ hp), ← e.2]

/-- a set: the struct at sb, its map at r -/
structure SetIs (m : Mem) (v : Value) (sb r : Nat) (l : List (Int × Int)) : Prop where
  ptr : v = .pointer (some ⟨sb, 0, none⟩)
  box : m sb = some (.cells #[.map (some r)] 50 (0, 0))
  map : MapIs ip m r (un l)
theorem SetIs.nd {m : Mem} {v : Value} {sb r : Nat} {l : List (Int × Int)} (h : SetIs m v sb r l) : l.Nodup := by
  have := h.map.nd; rwa [keys_un] at this
theorem SetIs.frame {m m' : Mem} {v : Value} {sb r : Nat} {l : List (Int × Int)} {S : List Nat} (h : SetIs m v sb r l) (f : Fr m m' S) (h1 : sb ∉ S) (h2 : r ∉ S) : SetIs m' v sb r l :=
  ⟨h.ptr, f.get h.box h1, h.map.frame f h2⟩
theorem SetIs.ne {m : Mem} {v : Value} {sb r : Nat} {l : List (Int × Int)} (h : SetIs m v sb r l) : sb ≠ r := by
  obtain ⟨es, c, hm, _⟩ := h.map
  rintro rfl
  rw [h.box] at hm; cases hm

theorem len_spec {m : Mem} {v : Value} {sb r : Nat} {l : List (Int × Int)} (h : SetIs m v sb r l) : MC Try.prog 10 [v] m fun u m' => u = .int .i64 l.length ∧ m' = m := by
  obtain ⟨rfl, hb, hm⟩ := h
  refine MC_start Try.func10 len__ok (by kernel_rfl) (by simp [Try.f10]) ?_
  simp (disch := omega) only [go_sem, hb, rd_lenm hm]
  exact ⟨by simp [un], rfl⟩

theorem has_spec {m : Mem} {v : Value} {sb r : Nat} {l : List (Int × Int)} (h : SetIs m v sb r l) (k : Int × Int) : MC Try.prog 18 [v, ip k] m fun u m' => u = .bool (decide (k ∈ l)) ∧ Fr m m' [] := by
  obtain ⟨rfl, hb, hm⟩ := h
  refine MC_start Try.func18 has__ok (by kernel_rfl) (by simp [Try.f18]) ?_
  simp (disch := omega) only [go_sem, ip]
  refine newP_intro fun b1 hb1 => ?_
  have f1 : Fr m (m.set b1 (Obj.cells #[Value.int IntKind.i64 k.1, Value.int IntKind.i64 k.2] 25)) [] := Fr.new _ hb1
  generalize hM : m.set b1 (Obj.cells #[Value.int IntKind.i64 k.1, Value.int IntKind.i64 k.2] 25) = M at f1 ⊢
  have h1 : M b1 = some (Obj.cells #[Value.int IntKind.i64 k.1, Value.int IntKind.i64 k.2] 25) := by rw [← hM, set_self]
  have hbM := f1.get0 hb
  have hmM := hm.frame f1 (by simp)
  have hl : ∀ M, MapIs ip M r (un l) → rd (.lkp true [.i .i64, .i .i64] (.agg #[]) true) [.map (some r), .agg #[.int .i64 k.1, .int .i64 k.2]] M = some (.tuple #[.agg #[], .bool (decide (k ∈ l))]) := fun M hmM => by
    have := rd_lkp ip_enc hmM k (.agg #[]) true
    rw [look_un] at this
    rw [show Value.agg #[.int .i64 k.1, .int .i64 k.2] = ip k from rfl, this]
    by_cases hk : k ∈ l <;> simp [hk] <;> omega
  have hl1 := hl M hmM
  simp (disch := omega) only [go_sem, hbM, h1, hl1]
  refine newP_intro fun b2 hb2 => ?_
  have f2 : Fr M (M.set b2 (Obj.cells #[] 51)) [] := Fr.new _ hb2
  generalize M.set b2 (Obj.cells #[] 51) = N at f2 ⊢
  have hbN := f2.get0 hbM
  have h1N := f2.get0 h1
  have hl2 := hl N (hmM.frame f2 (by simp))
  simp (disch := omega) only [go_sem, hbN, h1N, hl2]
  exact ⟨rfl, f1.trans0 f2⟩

theorem add_spec {m : Mem} {v : Value} {sb r : Nat} {l : List (Int × Int)} (h : SetIs m v sb r l) (k : Int × Int) : MC Try.prog 13 [v, ip k] m fun u m' => u = .bool (decide (k ∉ l)) ∧ SetIs m' v sb r (addL l k) ∧ Fr m m' [r] := by
  have hne := h.ne
  obtain ⟨rfl, hb, hm⟩ := h
  refine MC_start Try.func13 add__ok (by kernel_rfl) (by simp [Try.f13]) ?_
  simp (disch := omega) only [go_sem, ip]
  refine newP_intro fun b1 hb1 => ?_
  have f1 : Fr m (m.set b1 (Obj.cells #[Value.int IntKind.i64 k.1, Value.int IntKind.i64 k.2] 25)) [] := Fr.new _ hb1
  have h1 := set_self (m := m) b1 (Obj.cells #[Value.int IntKind.i64 k.1, Value.int IntKind.i64 k.2] 25)
  generalize m.set b1 (Obj.cells #[Value.int IntKind.i64 k.1, Value.int IntKind.i64 k.2] 25) = M at f1 h1 ⊢
  have hbM := f1.get0 hb
  have hmM := hm.frame f1 (by simp)
  have hlen := rd_lenm hmM
  simp (disch := omega) only [go_sem, hbM, h1, hlen]
  refine mup_own (k := k) ip_enc hmM fun N hmN f2 _ => ?_
  rw [upd_un] at hmN
  have hbN := f2.get hbM (by simpa using hne)
  have hlen2 := rd_lenm hmN
  simp (disch := omega) only [go_sem, hbN, hlen2]
  refine ⟨?_, ⟨rfl, hbN, hmN⟩, f1.transS (S := []) (Fr.refl _ _) |>.sub (by simp) |>.trans f2 (by simp)⟩
  simp only [un, List.length_map]
  congr 1
  unfold addL
  by_cases hk : k ∈ l <;> simp [hk] <;> omega

theorem drop_spec {m : Mem} {v : Value} {sb r : Nat} {l : List (Int × Int)} (h : SetIs m v sb r l) (k : Int × Int) : MC Try.prog 14 [v, ip k] m fun u m' => u = .bool (decide (k ∈ l)) ∧ SetIs m' v sb r (l.filter (· ≠ k)) ∧ Fr m m' [r] := by
  have hne := h.ne
  have hnd := h.nd
  obtain ⟨rfl, hb, hm⟩ := h
  refine MC_start Try.func14 drop__ok (by kernel_rfl) (by simp [Try.f14]) ?_
  simp (disch := omega) only [go_sem, ip]
  refine newP_intro fun b1 hb1 => ?_
  have f1 : Fr m (m.set b1 (Obj.cells #[Value.int IntKind.i64 k.1, Value.int IntKind.i64 k.2] 25)) [] := Fr.new _ hb1
  have h1 := set_self (m := m) b1 (Obj.cells #[Value.int IntKind.i64 k.1, Value.int IntKind.i64 k.2] 25)
  generalize m.set b1 (Obj.cells #[Value.int IntKind.i64 k.1, Value.int IntKind.i64 k.2] 25) = M at f1 h1 ⊢
  have hbM := f1.get0 hb
  have hmM := hm.frame f1 (by simp)
  have hlen := rd_lenm hmM
  simp (disch := omega) only [go_sem, hbM, h1, hlen]
  refine dlt_own (k := k) ip_enc hmM fun N hmN f2 _ => ?_
  rw [del_un] at hmN
  have hbN := f2.get hbM (by simpa using hne)
  have hlen2 := rd_lenm hmN
  simp (disch := omega) only [go_sem, hbN, hlen2]
  refine ⟨?_, ⟨rfl, hbN, hmN⟩, f1.transS (S := []) (Fr.refl _ _) |>.sub (by simp) |>.trans f2 (by simp)⟩
  simp only [un, List.length_map]
  congr 1
  by_cases hk : k ∈ l
  · have : (l.filter (· ≠ k)).length < l.length := List.length_filter_lt_length_iff_exists.2 ⟨k, hk, by simp⟩
    simp only [hk]
    simpa using this
  · have : l.filter (· ≠ k) = l := List.filter_eq_self.2 fun q hq => by simp; rintro rfl; exact hk hq
    rw [this]; simp [hk]
end Go.Fw
