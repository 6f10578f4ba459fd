import Derived.Test.YtnpldldflbeogaaGrRows
namespace Go.Fw
open Go.Proofs

/-- what Parts has made when it begins -/
def PStart (m m' : Mem) (n : Nat) (ev : Value) (B : WB) : Prop :=
  WRep m' n ev B (.slice none 0 0) ⟨fun _ => 0, fun _ => 0, fun _ => false, fun _ => 0, [], 0, 0⟩ ∧ (∀ b ∈ B.all (.slice none 0 0), m b = none) ∧ Fr m m' []

theorem pstart_of {m m' : Mem} {n : Nat} {ev : Value} {B : WB} (hw : m' B.w = some (.cells [ev, .slice (some ⟨B.i, 0, none⟩) n n, .slice (some ⟨B.l, 0, none⟩) n n, .slice (some ⟨B.o, 0, none⟩) n n, .slice none 0 0, .slice (some ⟨B.p, 0, none⟩) n n, .int .i64 0, .int .i64 0].toArray 40 (0, 0)))
    (hi : m' B.i = some (.cells (ri n fun _ => 0).toArray 3 (0, 0))) (hl : m' B.l = some (.cells (ri n fun _ => 0).toArray 3 (0, 0))) (ho : m' B.o = some (.cells (rb n fun _ => false).toArray 4 (0, 0))) (hp : m' B.p = some (.cells (ri n fun _ => 0).toArray 3 (0, 0)))
    (h0 : m B.w = none ∧ m B.i = none ∧ m B.l = none ∧ m B.o = none ∧ m B.p = none) (d : B.w ≠ B.i ∧ B.w ≠ B.l ∧ B.w ≠ B.o ∧ B.w ≠ B.p ∧ B.i ≠ B.l ∧ B.i ≠ B.o ∧ B.i ≠ B.p ∧ B.l ≠ B.o ∧ B.l ≠ B.p ∧ B.o ≠ B.p) (hf : Fr m m' []) : PStart m m' n ev B := by
  refine ⟨⟨hw, hi, hl, ho, hp, Own.nil _ _ _, d, by simp [blkOf]⟩, ?_, hf⟩
  intro b hb
  simp only [WB.all, blkOf, List.append_nil, List.mem_cons, List.not_mem_nil, or_false] at hb
  obtain ⟨h1, h2, h3, h4, h5⟩ := h0
  rcases hb with rfl | rfl | rfl | rfl | rfl <;> assumption

theorem new_ne {m : Mem} {b c : Nat} {o : Obj} (h : (m.set b o) c = none) : c ≠ b ∧ m c = none := by
  by_cases e : c = b
  · subst e; simp [Mem.set] at h
  · simp [Mem.set, e] at h; exact ⟨e, h⟩

theorem set_none {m : Mem} {b c : Nat} {o : Obj} : ((m.set b o) c = none) = (c ≠ b ∧ m c = none) := by
  apply propext
  exact ⟨new_ne, fun ⟨h1, h2⟩ => by simp [Mem.set, h1, h2]⟩
set_option maxHeartbeats 4000000 in
theorem parts_r4_ok (m : Mem) (n : Nat) (ea : Option Addr) (ec : Nat) (hn : n ≤ 512) (x13 : Value) (Q : Exit → Env → Mem → Prop) (hK : ∀ B m', PStart m m' n (.slice ea n ec) B → Q .normal [(0, .slice ea n ec), (4, .int .i64 (n : Nat)), (5, .pointer (some ⟨B.w, 0, none⟩))] m') :
    wpN Try.prog parts_r4 Q [(0, .slice ea n ec), (4, .int .i64 (n : Nat)), (13, x13)] m := by
  simp (disch := omega) only [go_sem]
  repeat' first
    | (refine both_intro ?_ ?_ <;> try simp (disch := omega) only [go_sem])
    | (refine newP_intro fun b hb => ?_
       try simp only [set_none] at hb
       simp (disch := omega) only [go_sem])
  all_goals
    refine hK ⟨_, _, _, _, _⟩ _ (pstart_of (set_self _ _) ?_ ?_ ?_ ?_ ⟨?_, ?_, ?_, ?_, ?_⟩ ⟨?_, ?_, ?_, ?_, ?_, ?_, ?_, ?_, ?_, ?_⟩ ?_)
  all_goals try dsimp only
  all_goals first
    | omega
    | (simp only [*]; done)
    | (simp (disch := omega) only [go_sem]; done)
    | (intro y hy _
       simp only [Mem.set]
       repeat' split
       all_goals first
         | rfl
         | (rename_i e; subst e; exact absurd (by simp only [*]) hy))
end Go.Fw
