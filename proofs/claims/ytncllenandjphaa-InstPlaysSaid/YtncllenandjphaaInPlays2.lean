import Derived.Test.YtncllenandjphaaInPadd
namespace Go.Fw
open Go.Proofs
/-- asks, cell by cell -/
def asks (l : List (Int × Int × Int)) : List Value := l.flatMap fun a => [.int .i64 a.1, .int .i64 a.2.1, .int .i64 a.2.2]
theorem asks_cons (p : Int × Int × Int) (l : List (Int × Int × Int)) : asks (p :: l) = .int .i64 p.1 :: .int .i64 p.2.1 :: .int .i64 p.2.2 :: asks l := rfl
theorem asks_len (l : List (Int × Int × Int)) : (asks l).length = l.length * 3 := by
  induction l with
  | nil => rfl
  | cons p r ih => rw [asks_cons, List.length_cons, List.length_cons, List.length_cons, List.length_cons, ih]; omega
theorem asks_get : ∀ (l : List (Int × Int × Int)) (i : Nat) (h : i < l.length), (asks l)[i * 3]? = some (.int .i64 l[i].1) ∧ (asks l)[i * 3 + 1]? = some (.int .i64 l[i].2.1) ∧ (asks l)[i * 3 + 2]? = some (.int .i64 l[i].2.2)
  | [], i, h => by simp at h
  | p :: r, 0, h => ⟨rfl, rfl, rfl⟩
  | p :: r, i + 1, h => by
    have := asks_get r i (by simpa using h)
    rw [asks_cons, show (i + 1) * 3 = i * 3 + 1 + 1 + 1 from by omega]
    simpa using this
def RdA (m : Mem) (v : Value) (l : List (Int × Int × Int)) : Prop := ∃ a c, v = .slice a l.length c ∧ Rd1 m a (asks l)
theorem RdA.frame {m m' : Mem} {v : Value} {l : List (Int × Int × Int)} (h : RdA m v l) (f : Fr m m' []) : RdA m' v l := by
  obtain ⟨a, c, e, hr⟩ := h; exact ⟨a, c, e, hr.frame f⟩
theorem RdA.at {m : Mem} {v : Value} {l : List (Int × Int × Int)} (h : RdA m v l) {i : Nat} (hi : i < l.length) :
    ∃ b o c, v = .slice (some ⟨b, o, none⟩) l.length c ∧ cellAt (m b) (o + i * 3) = some (.int .i64 l[i].1) ∧ cellAt (m b) (o + i * 3 + 1) = some (.int .i64 l[i].2.1) ∧ cellAt (m b) (o + i * 3 + 1 + 1) = some (.int .i64 l[i].2.2) := by
  obtain ⟨a, c, rfl, hr⟩ := h
  rcases hr with h | ⟨b, o, rfl, hc⟩
  · have := asks_len l; rw [h] at this; simp at this; omega
  · obtain ⟨h1, h2, h3⟩ := asks_get l i hi
    exact ⟨b, o, c, rfl, hc _ _ h1, by rw [Nat.add_assoc]; exact hc _ _ h2, by rw [Nat.add_assoc, Nat.add_assoc]; exact hc _ _ h3⟩

/-- what stands between the steps: the set and the list -/
structure PS (m m' : Mem) (s : Value) (sb sr wb : Nat) (S W : List (Int × Int)) (v : Value) : Prop where
  set : SetIs m' s sb sr S
  cell : m' wb = some (.cells #[v] 29 (0, 0))
  row : Own m' 25 2 v W.length (prs W)
  asc : Asc W
  perm : S.Perm W
  fr : Fr m m' []
  n1 : m sb = none
  n2 : m sr = none
  n3 : m wb = none
  n4 : ∀ b ∈ blkOf v, m b = none
theorem PS.ne {m m' : Mem} {s v : Value} {sb sr wb : Nat} {S W : List (Int × Int)} (h : PS m m' s sb sr wb S W v) : wb ≠ sb ∧ wb ≠ sr ∧ sb ∉ blkOf v ∧ sr ∉ blkOf v ∧ wb ∉ blkOf v := by
  have hb := h.set.box
  have hc := h.cell
  obtain ⟨es, cl, hm, _⟩ := h.set.map
  have row : ∀ b ∈ blkOf v, ∃ l, m' b = some (.cells l 25 (0, 0)) := by
    intro b hb
    rcases h.row.2 with ⟨e, _⟩ | ⟨b', cap, tail, e, hb', _⟩
    · rw [e] at hb; simp [blkOf] at hb
    · rw [e] at hb; simp only [blkOf, List.mem_singleton] at hb; subst hb; exact ⟨_, hb'⟩
  refine ⟨?_, ?_, ?_, ?_, ?_⟩
  · rintro rfl
    rw [hb] at hc; simp only [Option.some.injEq, Obj.cells.injEq] at hc; exact absurd hc.2.1 (by decide)
  · rintro rfl; rw [hm] at hc; cases hc
  · intro hx
    obtain ⟨l, hl⟩ := row _ hx
    rw [hb] at hl; simp only [Option.some.injEq, Obj.cells.injEq] at hl; exact absurd hl.2.1 (by decide)
  · intro hx
    obtain ⟨l, hl⟩ := row _ hx
    rw [hm] at hl; cases hl
  · intro hx
    obtain ⟨l, hl⟩ := row _ hx
    rw [hc] at hl; simp only [Option.some.injEq, Obj.cells.injEq] at hl; exact absurd hl.2.1 (by decide)
theorem PS.grow {m m' m2 : Mem} {s v : Value} {sb sr wb : Nat} {S W : List (Int × Int)} (h : PS m m' s sb sr wb S W v) (f : Fr m' m2 []) : PS m m2 s sb sr wb S W v :=
  ⟨h.set.frame f (by simp) (by simp), f.get0 h.cell, h.row.frame0 f, h.asc, h.perm, h.fr.trans0 f, h.n1, h.n2, h.n3, h.n4⟩

def fnV (wb : Nat) : Value := .func (.func 19) #[] #[.pointer (some ⟨wb, 0, none⟩)]

/-- the closure, called -/
theorem add_call {m m' : Mem} {s v : Value} {sb sr wb : Nat} {S W : List (Int × Int)} (h : PS m m' s sb sr wb S W v) (i : Int × Int) (hl : W.length < 1000) :
    MC Try.prog 19 [ip i, .pointer (some ⟨wb, 0, none⟩)] m' fun u m2 => u = .bool (decide (i ∉ W)) ∧ ∃ v', SetIs m2 s sb sr S ∧ m2 wb = some (.cells #[v'] 29 (0, 0)) ∧ Own m2 25 2 v' (insA i W).length (prs (insA i W)) ∧ Fr m m2 [] ∧ ∀ b ∈ blkOf v', m b = none := by
  obtain ⟨e1, e2, e3, e4, e5⟩ := h.ne
  refine MC.mono (padd_spec i h.cell h.row h.asc hl) ?_
  rintro u m2 ⟨hu, v', h1, h2, h3, h4⟩
  refine ⟨hu, v', h.set.frame h3 (by simpa using Ne.symm e1) (by simpa using Ne.symm e2), h1, h2, h.fr.trans h3 (fun x hx hx0 => by simp at hx; subst hx; exact absurd h.n3 hx0), fun b hb => ?_⟩
  rcases (h4 b hb).2 with h5 | h5
  · exact h.n4 b h5
  · exact fresh_fr h.fr h5

/-- what the loop's slots hold -/
def EnvP (ps s : Value) (wb n : Nat) : Env := [(1, ps), (5, s), (6, .pointer (some ⟨wb, 0, none⟩)), (7, fnV wb), (9, .int .i64 (n : Nat))]

set_option maxHeartbeats 2000000 in
/-- the place of an instance in the list -/
theorem scan_spec {m m' : Mem} {ps s v : Value} {sb sr wb n : Nat} {S W : List (Int × Int)} {l : List (Int × Int × Int)} {Q : Exit → Env → Mem → Prop} (h : PS m m' s sb sr wb S W v) (hl : W.length < 1000) (hA : RdA m ps l) (hn : n < l.length)
    (hQ : ∀ k : Nat, k ≤ W.length → (∀ j (hj : j < W.length), j < k → W[j] ≠ l[n].2) → (∀ hk : k < W.length, W[k] = l[n].2) → Q .normal [(1, ps), (5, s), (6, .pointer (some ⟨wb, 0, none⟩)), (7, fnV wb), (9, .int .i64 (n : Nat)), (10, .int .i64 (k : Nat)), (59, .bool false)] m') :
    wpN Try.prog (.seq iplays_r14 (.block 4 (.loop [1, 5, 6, 7, 9, 10] iplays_l1))) Q (EnvP ps s wb n) m' := by
  have hA' := hA.frame h.fr
  have hrow := h.row
  have kw := h.cell
  obtain ⟨a, c, rfl⟩ := h.row.form
  obtain ⟨b2, o2, c2, rfl, k1, k2, k3⟩ := hA'.at hn
  unfold EnvP
  simp (disch := omega) only [go_sem]
  refine loopQ_intro (fun x E M => ∃ k : Nat, k ≤ W.length ∧ x = W.length - k ∧ E = [(1, .slice (some ⟨b2, o2, none⟩) l.length c2), (5, s), (6, .pointer (some ⟨wb, 0, none⟩)), (7, fnV wb), (9, .int .i64 (n : Nat)), (10, .int .i64 (k : Nat))] ∧ M = m' ∧ ∀ j (hj : j < W.length), j < k → W[j] ≠ l[n].2) W.length rfl
    ⟨0, by omega, by omega, by rfl, rfl, fun j _ hj => by omega⟩ ?_
  rintro x E M ⟨k, hk, rfl, rfl, rfl, hpre⟩
  by_cases hk' : k < W.length
  · obtain ⟨b3, o3, ea, hc1, hd1⟩ := (show Rd1 M a (prs W) from by
      obtain ⟨a', c', e, hr⟩ := hrow.rdp
      cases e; exact hr).pair hk'
    subst ea
    simp (disch := omega) only [go_sem, kw, dec_t, hc1, hd1, k1, k2, k3]
    by_cases hw : W[k] = l[n].2
    · have e3 : (decide (W[k].1 = l[n].2.1) && decide (W[k].2 = l[n].2.2)) = true := by rw [hw]; simp
      simp (disch := omega) only [go_sem, e3, Bool.not_true, Bool.false_eq_true, if_false, if_true]
      exact hQ k hk hpre fun _ => hw
    · have e3 : (decide (W[k].1 = l[n].2.1) && decide (W[k].2 = l[n].2.2)) = false := by
        rw [Bool.eq_false_iff]; intro h; simp at h; exact hw (Prod.ext h.1 h.2)
      simp (disch := omega) only [go_sem, e3, Bool.not_false, Bool.false_eq_true, if_false, if_true]
      refine handN_intro (W.length - (k + 1)) (by omega) ⟨k + 1, by omega, rfl, rfl, rfl, fun j hj hjk => ?_⟩
      rcases Nat.lt_or_ge j k with hh | hh
      · exact hpre j hj hh
      · have : j = k := by omega
        subst this; exact hw
  · simp (disch := omega) only [go_sem, kw, dec_f, undef, Bool.false_eq_true, if_false]
    exact hQ k hk hpre fun h => absurd h hk'

set_option maxHeartbeats 2000000 in
/-- the look at the end of a step -/
theorem look_spec {m m' : Mem} {E : Env} {s v : Value} {sb sr wb : Nat} {S W : List (Int × Int)} {Q : Exit → Env → Mem → Prop} (h : PS m m' s sb sr wb S W v) (hl : W.length < 1000)
    (hE : hasAll E [1, 5, 6, 7, 9] = true) (h5 : E.get 5 = s) (h6 : E.get 6 = .pointer (some ⟨wb, 0, none⟩))
    (hQ : ∀ m2, PS m m2 s sb sr wb S W v → Q .normal [(1, E.get 1), (5, s), (6, .pointer (some ⟨wb, 0, none⟩)), (7, E.get 7), (9, E.get 9), (132, .bool false)] m2) :
    wpN Try.prog (.seq iplays_r30 (.cond (.slot 132) (.seq iplays_r31 .ret) .skip)) Q E m' := by
  have hsl : S.length < 1000000000 := by rw [h.perm.length_eq]; omega
  have kw := h.cell
  have hpl := h.perm.length_eq
  obtain ⟨a, c, rfl⟩ := h.row.form
  simp (disch := omega) only [go_sem, hE, h5, h6, kw]
  refine call_with (len_spec h.set) ?_
  rintro u m1 ⟨rfl, rfl⟩
  simp (disch := omega) only [go_sem, kw, h5, h6, hpl, ne_eq, not_true_eq_false, decide_false]
  refine call_with (list_spec h.set hsl) ?_
  rintro u2 m2 ⟨l2, hp2, ha2, ho2, f2, _⟩
  have h2 := h.grow f2
  have kw2 := h2.cell
  have e : l2 = W := List.Perm.eq_of_pairwise (le := lt2) (fun a b _ _ h1 h2 => by unfold lt2 at *; omega) ha2 h.asc (hp2.trans h.perm)
  subst e
  simp (disch := omega) only [go_sem, kw2, h5, h6]
  refine call_with (same_spec u2 _ l2 l2 m2 ho2.rdp h2.row.rdp (by omega) (by omega)) ?_
  rintro u3 m3 ⟨rfl, rfl⟩
  simp (disch := omega) only [go_sem, decide_true, Bool.not_true, Bool.false_eq_true, if_false, h5, h6]
  exact hQ _ h2
end Go.Fw
