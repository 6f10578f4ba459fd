import Derived.Test.YtncllenandjphaaInPlays4
import Derived.Test.YtncllenandjphaaInArgs
namespace Go.Fw
open Go.RowKit Go.ChangeShapes Go.WideShapes Go.Proofs
def playsFirst : NC := .seq iplays_r3 (.seq (.seq iplays_r4 (.cond (.slot 20) (.seq iplays_r5 .ret) .skip)) (.seq iplays_r6 (.seq iplays_r7 (.seq (.seq iplays_r8 (.block 0 (.loop [0, 1, 5, 6, 7, 8] iplays_l0))) playsTail))))

/-- while the first ones are laid in: as PS, but the list is that of a part -/
structure PF (m m' : Mem) (s : Value) (sb sr wb : Nat) (S W : List (Int × Int)) (F : List (Int × Int)) (v : Value) : Prop where
  set : SetIs m' s sb sr S
  cell : m' wb = some (.cells #[v] 29 (0, 0))
  row : Own m' 25 2 v W.length (prs W)
  asc : Asc W
  perm : (addAll F).Perm W
  fr : Fr m m' []
  n4 : ∀ b ∈ blkOf v, m b = none

theorem addAll_le (F : List (Int × Int)) : (addAll F).length ≤ F.length := by
  have go : ∀ (l acc : List (Int × Int)), (l.foldl addL acc).length ≤ acc.length + l.length := by
    intro l
    induction l with
    | nil => intro acc; simp
    | cons x r ih =>
      intro acc
      have h1 := ih (addL acc x)
      have h2 : (addL acc x).length ≤ acc.length + 1 := by unfold addL; split <;> simp
      simp only [List.foldl_cons, List.length_cons]
      omega
  have := go F []
  simpa [addAll] using this

set_option maxHeartbeats 2000000 in
theorem first_spec {m : Mem} {u ps : Value} {F : List (Int × Int)} {l : List (Int × Int × Int)} (hF : RdP m u F) (hFl : F.length ≤ 30) (hA : RdA m ps l) (hll : l.length ≤ 9223372036854775807) :
    wpN Try.prog playsFirst (retP [.slot 4] fun v m' => v = .bool true ∧ Fr m m' []) [(0, u), (1, ps)] m := by
  have hF' := hF
  obtain ⟨a, c, rfl, hr⟩ := hF'
  unfold playsFirst
  generalize hT : playsTail = Tail
  simp (disch := omega) only [go_sem]
  refine call_with (new_spec _ F m hF (by omega)) ?_
  rintro s m1 ⟨sb, sr, hs, f1, hsb, hsr⟩
  have hsp := hs.ptr
  subst hsp
  simp (disch := omega) only [go_sem, Option.isNone_some]
  refine newP_intro fun wb hwb => ?_
  have f2 : Fr m1 (m1.set wb (.cells #[.slice none 0 0] 29 (0, 0))) [] := Fr.new _ hwb
  have kw := set_self (m := m1) wb (.cells #[.slice none 0 0] 29 (0, 0))
  have hwm := fresh_fr f1 hwb
  have hs2 := hs.frame f2 (by simp) (by simp)
  generalize m1.set wb (.cells #[.slice none 0 0] 29 (0, 0)) = M at f2 kw hs2 ⊢
  simp (disch := omega) only [go_sem, List.take_zero, List.drop_zero]
  have f12 := f1.trans0 f2
  refine loopQ_intro (fun x E N => ∃ (k : Nat) (W : List (Int × Int)) (v : Value), k ≤ F.length ∧ x = F.length - k ∧ E = [(0, .slice a F.length c), (1, ps), (5, .pointer (some ⟨sb, 0, none⟩)), (6, .pointer (some ⟨wb, 0, none⟩)), (7, fnV wb), (8, .int .i64 (k : Nat))] ∧
      PF m N (.pointer (some ⟨sb, 0, none⟩)) sb sr wb (addAll F) W (F.take k) v) F.length rfl
    ⟨0, [], .slice none 0 0, by omega, by omega, rfl, hs2, kw, Own.nil _ _ _, List.Pairwise.nil, List.Perm.refl _, f12, fun b hb => by simp [blkOf] at hb⟩ ?_
  rintro x E N ⟨k, W, v, hk, rfl, rfl, h⟩
  have hWl : W.length ≤ k := by
    rw [← h.perm.length_eq]
    exact Nat.le_trans (addAll_le _) (by rw [List.length_take]; omega)
  by_cases hk' : k < F.length
  · obtain ⟨b1, o1, ea, hc1, hd1⟩ := (hr.frame h.fr).pair hk'
    subst ea
    simp (disch := omega) only [go_sem, dec_t, hc1, hd1, fnV, xs_callv, callable19]
    refine call_with (padd_spec F[k] h.cell h.row h.asc (by omega)) ?_
    rintro y N2 ⟨rfl, v2, g1, g2, g3, g4⟩
    simp (disch := omega) only [go_sem]
    have hwsb : wb ≠ sb := by
      rintro rfl
      have hb := h.set.box; have hc := h.cell
      rw [hb] at hc; simp only [Option.some.injEq, Obj.cells.injEq] at hc; exact absurd hc.2.1 (by decide)
    have hwsr : wb ≠ sr := by
      rintro rfl
      obtain ⟨es, cl, hm, _⟩ := h.set.map
      have hc := h.cell
      rw [hm] at hc; cases hc
    refine handN_intro (F.length - (k + 1)) (by omega) ⟨k + 1, insA F[k] W, v2, by omega, rfl, rfl, h.set.frame g3 (by simpa using Ne.symm hwsb) (by simpa using Ne.symm hwsr), g1, g2, insA_asc h.asc _, ?_, ?_, ?_⟩
    · rw [addAll_take hk']; exact insA_perm _ h.perm
    · exact h.fr.trans g3 (fun x hx hx0 => by simp at hx; subst hx; exact absurd hwm hx0)
    · intro b hb
      rcases (g4 b hb).2 with h8 | h8
      · exact h.n4 b h8
      · exact fresh_fr h.fr h8
  · have hkk : k = F.length := by omega
    simp (disch := omega) only [go_sem, dec_f]
    rw [← hT]
    have hp := h.perm
    rw [hkk, List.take_length] at hp
    exact tail_spec ⟨h.set, h.cell, h.row, h.asc, hp, h.fr, hsb, hsr, hwm, h.n4⟩ (by omega) hA hll

theorem RdP.take {m : Mem} {a : Option Addr} {c : Nat} {F : List (Int × Int)} (hr : Rd1 m a (prs F)) (n : Nat) (hn : n ≤ F.length) : RdP m (.slice a n c) (F.take n) := by
  refine ⟨a, c, by rw [List.length_take]; congr; omega, ?_⟩
  rw [← prs_take]
  rcases hr with h | ⟨b, o, rfl, hc⟩
  · exact .inl (by rw [h]; simp)
  · refine .inr ⟨b, o, rfl, fun i v hv => hc i v ?_⟩
    rw [List.getElem?_take] at hv
    split at hv
    · exact hv
    · cases hv

set_option maxHeartbeats 1000000 in
theorem iplays_spec {m : Mem} {u ps : Value} {F : List (Int × Int)} {l : List (Int × Int × Int)} (hF : ∃ a c, u = .slice a F.length c ∧ F.length ≤ c ∧ Rd1 m a (prs F)) (hFl : F.length ≤ 9223372036854775807) (hA : RdA m ps l) (hll : l.length ≤ 9223372036854775807) :
    MC Try.prog 4 [u, ps] m fun v m' => v = .bool true ∧ Fr m m' [] := by
  obtain ⟨a, c, rfl, hc, hr⟩ := hF
  refine MC_start Try.func4 iplays_ok (by kernel_rfl) (by simp [Try.f4]) ?_
  show wpN Try.prog (.seq iplays_r0 (.seq (.seq iplays_r1 (.cond (.slot 14) iplays_r2 .skip)) playsFirst)) _ _ _
  generalize hT : playsFirst = Rest
  by_cases h : 30 < F.length
  · simp (disch := omega) only [go_sem, dec_t]
    rw [← hT]
    have e : ((30 : Int).toNat) = 30 := rfl
    exact first_spec (RdP.take hr 30 (by omega)) (by rw [List.length_take]; omega) hA hll
  · simp (disch := omega) only [go_sem, dec_f]
    rw [← hT]
    exact first_spec ⟨a, c, rfl, hr⟩ (by omega) hA hll

theorem asks_of : ∀ {L : List (List Value)}, (∀ cs ∈ L, Leaves [.i .i64, .i .i64, .i .i64] cs) → ∃ l : List (Int × Int × Int), l.length = L.length ∧ L.flatten = asks l
  | [], _ => ⟨[], rfl, rfl⟩
  | cs :: L, h => by
    obtain ⟨a, b, c, rfl, _⟩ := triple_of (h cs (List.mem_cons_self ..))
    obtain ⟨l, h1, h2⟩ := asks_of (L := L) fun c hc => h c (List.mem_cons_of_mem _ hc)
    exact ⟨(a, b, c) :: l, by simp [h1], by simp [h2, asks_cons]⟩
section
variable {H : Type} {enc : TypeId × Value → H} {P : Program} {w : World} {base : Nat} {spare : Nat → Bool} {held : Bool}
theorem open_asks {r : Reach} {b0 : Nat} {t e : TypeId} {v : Value} {d : DataW H} {p : List MemPlace} (ht : P.underlying t = some (.slice e)) (hk : leavesOf P 10000 e = some [.i .i64, .i .i64, .i .i64]) (hv : Value.okWide P w r b0 t v) (h : DataW.Trod enc P w base spare held t v d p) :
    ∃ l, RdA (absM w) v l ∧ l.length ≤ 9223372036854775807 := by
  obtain ⟨L, a, c, rfl, hc, hL, hn, hr⟩ := open_rows ht hk (by decide) hv h
  obtain ⟨l, h1, h2⟩ := asks_of hL
  exact ⟨l, ⟨a, c, by rw [h1], h2 ▸ hr⟩, by omega⟩
theorem open_prsc {r : Reach} {b0 : Nat} {t e : TypeId} {v : Value} {d : DataW H} {p : List MemPlace} (ht : P.underlying t = some (.slice e)) (hk : leavesOf P 10000 e = some [.i .i64, .i .i64]) (hv : Value.okWide P w r b0 t v) (h : DataW.Trod enc P w base spare held t v d p) :
    ∃ l : List (Int × Int), (∃ a c, v = .slice a l.length c ∧ l.length ≤ c ∧ Rd1 (absM w) a (prs l)) ∧ l.length ≤ 9223372036854775807 := by
  obtain ⟨L, a, c, rfl, hc, hL, hn, hr⟩ := open_rows ht hk (by decide) hv h
  obtain ⟨l, h1, h2⟩ := prs_of hL
  exact ⟨l, ⟨a, c, by rw [h1], by omega, h2 ▸ hr⟩, by omega⟩
end
end Go.Fw
