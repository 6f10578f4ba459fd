import Derived.Test.YtnpldldflbeogaaGrCode
import Derived.Test.YtnpldldflbeogaaGrTarjan
namespace Go.Fw
open Go.Proofs

def nats (l : List Nat) : List Value := l.map fun i => .int .i64 (i : Nat)

structure WB where
  w : Nat
  i : Nat
  l : Nat
  o : Nat
  p : Nat

/-- the walk's memory -/
structure WRep (m : Mem) (n : Nat) (ev : Value) (B : WB) (rv : Value) (s : TS) : Prop where
  hw : m B.w = some (.cells [ev, .slice (some ⟨B.i, 0, none⟩) n n, .slice (some ⟨B.l, 0, none⟩) n n, .slice (some ⟨B.o, 0, none⟩) n n, rv, .slice (some ⟨B.p, 0, none⟩) n n, .int .i64 s.many, .int .i64 s.clock].toArray 40 (0, 0))
  hi : m B.i = some (.cells (ri n s.idx).toArray 3 (0, 0))
  hl : m B.l = some (.cells (ri n s.low).toArray 3 (0, 0))
  ho : m B.o = some (.cells (rb n s.opn).toArray 4 (0, 0))
  hp : m B.p = some (.cells (ri n s.part).toArray 3 (0, 0))
  hr : Own m 3 1 rv s.row.length (nats s.row)
  d : B.w ≠ B.i ∧ B.w ≠ B.l ∧ B.w ≠ B.o ∧ B.w ≠ B.p ∧ B.i ≠ B.l ∧ B.i ≠ B.o ∧ B.i ≠ B.p ∧ B.l ≠ B.o ∧ B.l ≠ B.p ∧ B.o ≠ B.p
  dr : ∀ b ∈ blkOf rv, b ≠ B.w ∧ b ≠ B.i ∧ b ≠ B.l ∧ b ≠ B.o ∧ b ≠ B.p

def WB.all (B : WB) (rv : Value) : List Nat := [B.w, B.i, B.l, B.o, B.p] ++ blkOf rv

set_option maxHeartbeats 1000000 in
theorem come_spec (m : Mem) (n : Nat) (ev : Value) (B : WB) (rv : Value) (s : TS) (v : Nat) (h : WRep m n ev B rv s) (hv : v < n) (hc : s.clock < 1000000) (hrl : s.row.length < 1000000) :
    MC Try.prog 21 [.pointer (some ⟨B.w, 0, none⟩), .int .i64 v] m fun r m' => r = .agg #[.int .i64 v, .int .i64 0] ∧ ∃ rv', WRep m' n ev B rv' (s.come v) ∧ Fr m m' (B.all rv) ∧ (∀ b ∈ blkOf rv', b ∈ blkOf rv ∨ m b = none) := by
  obtain ⟨hw, hi, hl, ho, hp, hr, ⟨d1, d2, d3, d4, d5, d6, d7, d8, d9, d10⟩, dr⟩ := h
  refine MC_start Try.func21 come_ok (by kernel_rfl) (by simp [Try.f21]) ?_
  simp (disch := omega) only [go_sem]
  refine newP_intro fun bn hbn => ?_
  have n1 : bn ≠ B.w := fun e => by rw [e, hw] at hbn; cases hbn
  have n2 : bn ≠ B.i := fun e => by rw [e, hi] at hbn; cases hbn
  have n3 : bn ≠ B.l := fun e => by rw [e, hl] at hbn; cases hbn
  have n4 : bn ≠ B.o := fun e => by rw [e, ho] at hbn; cases hbn
  have n5 : bn ≠ B.p := fun e => by rw [e, hp] at hbn; cases hbn
  have n6 : ∀ b ∈ blkOf rv, b ≠ bn := fun b hb e => hr.there b hb (by rw [e]; exact hbn)
  simp (disch := omega) only [go_sem, hw, hi, hl, ho]
  generalize hm1 : Mem.set (Mem.set (Mem.set (Mem.set (Mem.set m bn _) B.w _) B.i _) B.l _) B.o _ = m1
  have w1 := (congrFun hm1 B.w).symm
  have i1 := (congrFun hm1 B.i).symm
  have l1 := (congrFun hm1 B.l).symm
  have o1 := (congrFun hm1 B.o).symm
  have p1 := (congrFun hm1 B.p).symm
  have r1 := (congrFun hm1 bn).symm
  simp (disch := omega) only [go_sem, hp] at w1 i1 l1 o1 p1 r1
  have f1 : Fr m m1 [B.w, B.i, B.l, B.o] := by
    rw [← hm1]
    exact ((((Fr.new _ hbn).transS (Fr.set (by simp))).transS (Fr.set (by simp))).transS (Fr.set (by simp))).transS (Fr.set (by simp))
  clear hm1 hw hi hl ho
  refine newP_intro fun b2 hb2 => ?_
  have f2 : Fr m1 (m1.set b2 (.cells [Value.int .i64 v].toArray 3)) [] := Fr.new _ hb2
  simp (disch := omega) only [go_sem]
  refine app_own (n := s.row.length) (xs := nats s.row) (k := 1) (c := 1) (news := [.int .i64 v]) (hr.frame (f1.trans0 f2) (fun b hb => by have := dr b hb; simp; omega)) rfl ?_ rfl (by simp [Value.oneCell']) rfl (by omega) (by omega) ?_
  · simp (disch := omega) only [go_sem, ldS]
  intro rv' m2 hr' f3 hblk
  have d' : ∀ x, (∀ b ∈ blkOf rv, b ≠ x) → x ∉ blkOf rv := fun x h hx => h x hx rfl
  have w2 := f3.get (f2.get0 w1) (d' _ fun b hb => (dr b hb).1)
  have i2 := f3.get (f2.get0 i1) (d' _ fun b hb => (dr b hb).2.1)
  have l2 := f3.get (f2.get0 l1) (d' _ fun b hb => (dr b hb).2.2.1)
  have o2 := f3.get (f2.get0 o1) (d' _ fun b hb => (dr b hb).2.2.2.1)
  have p2 := f3.get (f2.get0 p1) (d' _ fun b hb => (dr b hb).2.2.2.2)
  have r2 := f3.get (f2.get0 r1) (d' _ n6)
  have t2 : ∀ {x o}, m1 x = some o → (m1.set b2 (.cells [Value.int .i64 v].toArray 3)) x ≠ none := fun {x o} h e => by have := f2.get0 h; rw [e] at this; cases this
  have dr' : ∀ b ∈ blkOf rv', b ≠ B.w ∧ b ≠ B.i ∧ b ≠ B.l ∧ b ≠ B.o ∧ b ≠ B.p ∧ b ≠ bn := by
    intro b hb
    rcases hblk b hb with h | h
    · have := dr b h; have := n6 b h; omega
    · exact ⟨fun e => t2 w1 (e ▸ h), fun e => t2 i1 (e ▸ h), fun e => t2 l1 (e ▸ h), fun e => t2 o1 (e ▸ h), fun e => t2 p1 (e ▸ h), fun e => t2 r1 (e ▸ h)⟩
  obtain ⟨ra, rc, rfl⟩ := hr'.form
  simp (disch := omega) only [go_sem, w2, r2]
  refine post_intro ⟨rfl, _, ⟨?_, ?_, ?_, ?_, ?_, ?_, ⟨d1, d2, d3, d4, d5, d6, d7, d8, d9, d10⟩, fun b hb => by have := dr' b hb; omega⟩, ?_, ?_⟩
  · simp (disch := omega) only [go_sem]; rfl
  · simp (disch := omega) only [go_sem, i2]; rfl
  · simp (disch := omega) only [go_sem, l2]; rfl
  · simp (disch := omega) only [go_sem, o2]; rfl
  · simp (disch := omega) only [go_sem, p2]; rfl
  · have : Own m2 3 1 (.slice ra (s.row.length + 1) rc) (s.come v).row.length (nats (s.come v).row) := by
      simp only [TS.come, List.length_append, List.length_cons, List.length_nil, nats, List.map_append, List.map_cons, List.map_nil]; exact hr'
    refine this.frame (S := [B.w, bn]) ((Fr.set (by simp)).transS (Fr.set (by simp))) (fun b hb => by have := dr' b hb; simp; omega)
  · have g1 : Fr m m2 (B.all rv) := (((f1.trans0 f2).sub (fun x hx => by simp [WB.all] at *; omega)).transS (f3.sub (fun x hx => by simp [WB.all, hx])))
    exact (g1.transS (Fr.set (by simp [WB.all]))).trans (T := [bn]) (Fr.set (by simp)) (fun x hx hne => by simp only [List.mem_singleton] at hx; subst hx; exact (hne hbn).elim)
  · intro b hb
    rcases hblk b hb with h | h
    · exact .inl h
    · right
      cases hb0 : m b with
      | none => rfl
      | some o =>
        exfalso
        have hne := dr' b hb
        have := f1.get hb0 (by simp; omega)
        exact t2 this h
end Go.Fw
