import Derived.Test.YtadkdbnikmkgfaaPkJ
import Derived.Test.YtadkdbnikmkgfaaPkS
import Derived.Test.YtadkdbnikmkgfaaPkT
set_option linter.unusedSimpArgs false
set_option linter.unusedVariables false
namespace Go.Fw
open Go.Proofs
variable {m m0 M : Mem} {S : List Nat} {L : List As}
/-- a piece whose order is drawn, cut off: all its orders come to J -/
theorem both_cut {P : Program} {Lf : Nat → Value} {a b : ET} {σ : Env} {K : Env → Mem → Prop} {l : Lk (etP P Lf a σ m K)} {l' : Lk (etP P Lf b σ m K)} (J : Env → Mem → Prop) (hK : ∀ E M, J E M → K E M) (h : etP P Lf (.both a b) σ m J) : both (etP P Lf a σ m K) (etP P Lf b σ m K) l l' := etP_mono hK _ _ _ h
theorem both_cut3 {P : Program} {Lf : Nat → Value} {a b c : ET} {σ : Env} {K : Env → Mem → Prop} {l : Lk (etP P Lf a σ m K)} {l1 : Lk (etP P Lf b σ m K)} {l2 : Lk (etP P Lf c σ m K)} {l3 : Lk (both (etP P Lf b σ m K) (etP P Lf c σ m K) l1 l2)} (J : Env → Mem → Prop) (hK : ∀ E M, J E M → K E M) (h : etP P Lf (.both a (.both b c)) σ m J) :
    both (etP P Lf a σ m K) (both (etP P Lf b σ m K) (etP P Lf c σ m K) l1 l2) l l3 := ⟨etP_mono hK _ _ _ h.1, etP_mono hK _ _ _ h.2.1, etP_mono hK _ _ _ h.2.2⟩
inductive F2 {α β : Type} (R : α → β → Prop) : List α → List β → Prop
  | nil : F2 R [] []
  | cons {x : α} {y : β} {l : List α} {r : List β} : R x y → F2 R l r → F2 R (x :: l) (y :: r)
instance (priority := 10) {L : List As} : CellF L [] := ⟨fun _ _ => trivial⟩
/-! rows of rows of bytes -/
def v1 (v : Value) : List Value := [v]
theorem v1_len (v : Value) : (v1 v).length = 1 := rfl
theorem v1_0 (v : Value) : (v1 v)[0]? = some v := rfl
attribute [go_sem] v1_0
theorem F2_mem {α β : Type} {R : α → β → Prop} {Q : α → Prop} {l : List α} {r : List β} (h : F2 (fun x y => R x y ∧ Q x) l r) : ∀ x ∈ l, Q x := by
  induction h with
  | nil => simp
  | cons h1 _ ih =>
    intro x hx
    rcases List.mem_cons.1 hx with rfl | hx
    · exact h1.2
    · exact ih x hx
def brA (T : TypeId) (w : Value) (vs : List Value) (ls : List (List UInt8)) : As where
  fp := blkOf w ++ vs.flatMap blkOf
  wp := blkOf w ++ vs.flatMap blkOf
  sub _ h := h
  p m := Own m T 1 w vs.length (vs.flatMap v1) ∧ F2 (fun v l => RdB m v l ∧ ∀ b ∈ blkOf v, m b ≠ none) vs ls ∧ ∀ v ∈ vs, ∀ b ∈ blkOf v, b ∉ blkOf w
  st h e := ⟨h.1.st fun b hb => e b (List.mem_append_left _ hb), by
    have h2 := h.2.1
    have e2 : ∀ v ∈ vs, ∀ b ∈ blkOf v, _ := fun v hv b hb => e b (List.mem_append_right _ (List.mem_flatMap.2 ⟨v, hv, hb⟩))
    clear h e
    induction h2 with
    | nil => exact .nil
    | cons h1 _ ih => exact .cons ⟨h1.1.st fun b hb => e2 _ (List.mem_cons_self ..) b hb, fun b hb => by rw [e2 _ (List.mem_cons_self ..) b hb]; exact h1.2 b hb⟩ (ih fun v hv => e2 v (List.mem_cons_of_mem _ hv)), h.2.2⟩
  th h b hb := by
    rcases List.mem_append.1 hb with hb | hb
    · exact h.1.there b hb
    · obtain ⟨v, hv, hb2⟩ := List.mem_flatMap.1 hb
      exact F2_mem h.2.1 v hv b hb2
theorem F2_len {α β : Type} {R : α → β → Prop} {l : List α} {r : List β} (h : F2 R l r) : l.length = r.length := by
  induction h with
  | nil => rfl
  | cons _ _ ih => simp [ih]
theorem F2_get {α β : Type} {R : α → β → Prop} {l : List α} {r : List β} (h : F2 R l r) : ∀ {i : Nat} {x : α} {y : β}, l[i]? = some x → r[i]? = some y → R x y := by
  induction h with
  | nil => intro i x y hx; simp at hx
  | cons h1 _ ih =>
    intro i x y hx hy
    cases i with
    | zero => simp at hx hy; subst hx hy; exact h1
    | succ i => exact ih (by simpa using hx) (by simpa using hy)
theorem F2_snoc {α β : Type} {R : α → β → Prop} {l : List α} {r : List β} (h : F2 R l r) {x : α} {y : β} (hx : R x y) : F2 R (l ++ [x]) (r ++ [y]) := by
  induction h with
  | nil => exact .cons hx .nil
  | cons h1 _ ih => exact .cons h1 ih
theorem F2_imp {α β : Type} {R R' : α → β → Prop} {l : List α} {r : List β} (h : F2 R l r) (k : ∀ x ∈ l, ∀ y, R x y → R' x y) : F2 R' l r := by
  induction h with
  | nil => exact .nil
  | cons h1 _ ih => exact .cons (k _ (List.mem_cons_self ..) _ h1) (ih fun x hx => k x (List.mem_cons_of_mem _ hx))
theorem brA_at {T : TypeId} {w : Value} {vs : List Value} {ls : List (List UInt8)} (h : (brA T w vs ls).p m) {i : Nat} {v : Value} {l : List UInt8} (hv : vs[i]? = some v) (hl : ls[i]? = some l) : RdB m v l := (F2_get h.2.1 hv hl).1
theorem brA_len {T : TypeId} {w : Value} {vs : List Value} {ls : List (List UInt8)} (h : (brA T w vs ls).p m) : vs.length = ls.length := F2_len h.2.1
theorem brA_rds {T : TypeId} {w : Value} {vs : List Value} {ls : List (List UInt8)} (h : (brA T w vs ls).p m) : RdS 1 v1 m w vs := Own.rds (by decide) v1_len h.1
/-- a row of one's own comes behind the others -/
theorem app_br {P : Program} {T bt : TypeId} {w v y : Value} {vs : List Value} {ls : List (List UInt8)} {l : List UInt8} {K : Value → Mem → Prop} {lk : Lk K} {l1 : Lk w} {l2 : Lk m} {b c : Nat}
    (H : Hq m0 m S (cellA b (.cells [v].toArray T (0, 0)) :: byA bt v l :: brA T w vs ls :: L)) (hy : y = .slice (some ⟨b, 0, none⟩) 1 c) (hv1 : v.oneCell' = true) (hn : vs.length < 1000000000)
    (hK : ∀ w' M, Hq m0 M S (brA T w' (vs ++ [v]) (ls ++ [l]) :: L) → K w' M) : appQ P T 1 24 [.slice none 0 0] w y m K lk l1 l2 := by
  have hcb : m b = some (.cells [v].toArray T (0, 0)) := H.cs.1
  have H2 := H.tail
  have hbr := H2.at 1 rfl
  have hby := H2.at 0 rfl
  have hap : Apart (byA bt v l) (brA T w vs ls) := (List.pairwise_cons.1 H2.dj).1 _ (List.mem_cons_self ..)
  refine app_own (k := 1) (news := [v]) hbr.1 hy (by simpa using ldS_cell hcb (n := 1) (by simp)) rfl (by simpa using hv1) rfl (by omega) (by omega) fun w' M ho f hblk => hK w' M ?_
  refine H2.join.rep0 (A' := brA T w' (vs ++ [v]) (ls ++ [l])) ⟨?_, ?_, ?_⟩ (f.sub fun x hx => List.mem_append_right _ (List.mem_append_left _ hx)) ?_ ?_
  · rw [List.length_append, List.flatMap_append]; exact ho
  · refine F2_snoc (F2_imp hbr.2.1 fun x hx y hxy => ?_) ⟨?_, ?_⟩
    · have hne : ∀ b ∈ blkOf x, M b = m b := fun b hb => f b (hxy.2 b hb) (hbr.2.2 x hx b hb)
      exact ⟨hxy.1.st hne, fun b hb => by rw [hne b hb]; exact hxy.2 b hb⟩
    · exact (byA_rd hby).st fun b hb => f b (hby.there b hb) fun h => hap.1 b hb (List.mem_append_left _ h)
    · intro b hb
      rw [f b (hby.there b hb) fun h => hap.1 b hb (List.mem_append_left _ h)]; exact hby.there b hb
  · intro x hx b hb hw
    rcases List.mem_append.1 hx with hx | hx
    · rcases hblk b hw with h | h
      · exact hbr.2.2 x hx b hb h
      · exact (brA T w vs ls).th hbr b (List.mem_append_right _ (List.mem_flatMap.2 ⟨x, hx, hb⟩)) h
    · simp only [List.mem_singleton] at hx; subst hx
      rcases hblk b hw with h | h
      · exact hap.1 b hb (List.mem_append_left _ h)
      · exact hby.there b hb h
  all_goals
    intro b hb
    rcases List.mem_append.1 hb with hb | hb
    · rcases hblk b hb with h | h
      · exact .inl (List.mem_append_right _ (List.mem_append_left _ h))
      · exact .inr h
    · rw [List.flatMap_append] at hb
      rcases List.mem_append.1 hb with hb | hb
      · exact .inl (List.mem_append_right _ (List.mem_append_right _ hb))
      · exact .inl (List.mem_append_left _ (by simpa using hb))
theorem Hq.nilBr (H : Hq m0 m S L) (T : TypeId) : Hq m0 m S (brA T (.slice none 0 0) [] [] :: L) :=
  H.add (A := brA T (.slice none 0 0) [] []) ⟨Own.nil _ _ _, .nil, by simp⟩ (Fr.refl _ _) (by simp [brA, blkOf])
theorem within_s (n lo hi : Int) (h : lo ≤ hi) (hn : R6 n) (h1 : -1000000000000 ≤ lo) (h2 : hi ≤ 1000000000000) : MC Try.prog n_book_Within [.int .i64 n, .int .i64 lo, .int .i64 hi] m fun v M => (∃ r, v = .int .i64 r ∧ lo ≤ r ∧ r ≤ hi) ∧ Fr m M [] := by
  refine book_Within_go (by simp [Try.f33]) ?_
  have hd : 0 < hi - lo + 1 := by omega
  have e1 := Int.tmod_lt_of_pos n hd
  have e2 : -(hi - lo + 1) < n.tmod (hi - lo + 1) := by
    have := Int.lt_tmod_of_pos n hd
    omega
  have H := Hq.refl m []
  simp (disch := omega) only [go_sem, undef, rd_rem]
  generalize n.tmod (hi - lo + 1) = q at *
  refine condB_dec (fun h3 => ?_) (fun h3 => ?_)
  · simp (disch := omega) only [go_sem, undef]
    exact ⟨⟨_, rfl, by omega, by omega⟩, H.fr⟩
  · simp (disch := omega) only [go_sem, undef]
    exact ⟨⟨_, rfl, by omega, by omega⟩, H.fr⟩
end Go.Fw
