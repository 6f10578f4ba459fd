import Derived.Test.YtpjecpkkcabnjaaGreatDoorSwI
import Derived.Test.YtpjecpkkcabnjaaGreatDoorCd
set_option linter.unusedVariables false
set_option linter.unusedSimpArgs false
/-! The law's own functions. -/
namespace Go.Fw
open Go.Proofs Go.Sh
variable {m m0 M : Mem} {S : List Nat} {L : List As}
theorem zb_app (a b : List UInt8) : zb a ++ zb b = zb (a ++ b) := by
  apply ByteArray.ext
  simp [zb]
theorem rd_zadd (a b : List UInt8) (h : a.length + b.length ≤ 9223372036854775807) (m : Mem) : rd (.str .add) [strV a, strV b] m = some (strV (a ++ b)) := by
  show (if (zb a).size + (zb b).size ≤ 9223372036854775807 then some (Value.string (zb a ++ zb b)) else none) = _
  rw [if_pos (by rw [zb_size, zb_size]; exact h), zb_app]
/-- lengths as Go has them -/
structure Len (s : Stp) : Prop where
  key : s.key.length ≤ 281474976710656
  fin : s.fin.length ≤ 281474976710656
  old : s.old.length ≤ 281474976710656
  val : s.val.length ≤ 281474976710656
set_option maxRecDepth 100000 in
theorem light_s {s : Stp} {a : Option Addr} {n c : Nat} (h : Len s) (hn : n ≤ 281474976710656) (m : Mem) :
    MC Tryz.prog n_keep_Light [.agg (stc s a n c).toArray] m fun v M => v = .bool (decide (s.key.length + s.fin.length + s.old.length + s.val.length + n < 1000)) ∧ Fr m M [] := by
  obtain ⟨h1, h2, h3, h4⟩ := h
  refine keep_Light_go (by simp [Tryz.f33]) ?_
  have H := Hq.refl m []
  simp (disch := omega) only [go_sem, undef]
  refine newQ H fun b M f H => ?_
  simp (disch := omega) only [go_sem, undef, H.cs, rd_lenz_zb]
  refine ⟨?_, H.fr⟩
  congr 1
  apply decide_eq_decide.2
  omega
theorem edge_s {s : Stp} {a : Option Addr} {c : Nat} (hp : RdS 1 ic m (.slice a s.picks.length c) s.picks) (hn : s.picks.length ≤ 1000000) :
    MC Tryz.prog n_law29_edge [.agg (stc s a s.picks.length c).toArray] m fun v M => (∃ b, v = .bool b) ∧ Fr m M [] := by
  have key : ∀ (E : Env) (B : Bool) (M : Mem) (sb : Nat), E.get 1 = .pointer (some ⟨sb, 0, none⟩) → E.has 1 = true → E.get 3 = .bool B → E.has 3 = true → Hq m M [] [cellA sb (.cells (stc s a s.picks.length c).toArray T_api_Step (0, 0))] → wpN Tryz.prog (.seq (.seq law29_edge_r2 (.block 0 (.loop [1, 3, 4] law29_edge_l0))) (.seq law29_edge_r6 .ret)) (retP law29_edge_F.rvs fun v M => (∃ b, v = .bool b) ∧ Fr m M []) E M := by
    intro E B M sb e1 h1 e3 h3 H
    simp (disch := omega) only [go_sem, undef, e1, h1, e3, h3]
    refine loopQ_intro (fun k E m' => ∃ (j : Nat) (B : Bool), j ≤ s.picks.length ∧ k = s.picks.length - j ∧ E = [(1, .pointer (some ⟨sb, 0, none⟩)), (3, .bool B), (4, .int .i64 (j : Nat))] ∧ Hq m m' [] [cellA sb (.cells (stc s a s.picks.length c).toArray T_api_Step (0, 0))]) s.picks.length rfl ⟨0, B, by omega, rfl, rfl, H⟩ ?_
    clear H
    rintro k E M1 ⟨j, B, hj, rfl, rfl, H⟩
    by_cases hlt : j < s.picks.length
    · refine RdS.elK (hp.frame H.fr) hlt (by decide) fun bx o x hx hix hE => ?_
      have hx0 : (ic x)[0]? = some (.int .i64 x) := rfl
      cases B with
      | true =>
        simp (disch := omega) only [go_sem, undef, dec_t (show ((j : Nat) : Int) < (s.picks.length : Nat) by omega), hix, hE.ld0, hx0, H.cs]
        exact handN_intro (s.picks.length - (j + 1)) (by omega) ⟨j + 1, _, by omega, rfl, rfl, H⟩
      | false =>
        simp (disch := omega) only [go_sem, undef, dec_t (show ((j : Nat) : Int) < (s.picks.length : Nat) by omega), hix, hE.ld0, hx0, H.cs]
        exact handN_intro (s.picks.length - (j + 1)) (by omega) ⟨j + 1, _, by omega, rfl, rfl, H⟩
    · have e : j = s.picks.length := by omega
      subst e
      simp (disch := omega) only [go_sem, undef, dec_f (show ¬ ((s.picks.length : Nat) : Int) < (s.picks.length : Nat) by omega), H.cs]
      exact ⟨⟨_, rfl⟩, H.fr⟩
  refine law29_edge_go (by simp [Tryz.f33]) ?_
  have H := Hq.refl m []
  show wpN Tryz.prog (.seq law29_edge_r0 (.seq law29_edge_r1 (.seq (.seq law29_edge_r2 (.block 0 (.loop [1, 3, 4] law29_edge_l0))) (.seq law29_edge_r6 .ret)))) _ _ _
  generalize hC : (NC.seq (.seq law29_edge_r2 (.block 0 (.loop [1, 3, 4] law29_edge_l0))) (.seq law29_edge_r6 .ret)) = C at key ⊢
  by_cases h1 : s.n = -9223372036854775808
  · simp (disch := omega) only [go_sem, undef]
    refine newQ H fun sb M f H => ?_
    simp (disch := omega) only [go_sem, undef, H.cs, decide_eq_true h1]
    exact key _ _ _ sb rfl rfl rfl rfl H
  · by_cases h2 : s.count = -9223372036854775808
    · simp (disch := omega) only [go_sem, undef]
      refine newQ H fun sb M f H => ?_
      simp (disch := omega) only [go_sem, undef, H.cs, decide_eq_false h1, decide_eq_true h2]
      exact key _ _ _ sb rfl rfl rfl rfl H
    · simp (disch := omega) only [go_sem, undef]
      refine newQ H fun sb M f H => ?_
      simp (disch := omega) only [go_sem, undef, H.cs, decide_eq_false h1, decide_eq_false h2]
      exact key _ _ _ sb rfl rfl rfl rfl H
theorem sameI_s {a b : Option Addr} {c d : Nat} {l : List Int} (h1 : RdS 1 ic m (.slice a l.length c) l) (h2 : RdS 1 ic m (.slice b l.length d) l) (hn : l.length ≤ 1000000) :
    MC Tryz.prog n_book_Same_int [.slice a l.length c, .slice b l.length d] m fun v M => v = .bool true ∧ Fr m M [] := by
  refine book_Same_int_go (by simp [Tryz.f33]) ?_
  have H := Hq.refl m []
  simp (disch := omega) only [go_sem, undef, dec_f (show ¬ ((l.length : Nat) : Int) ≠ (l.length : Nat) by simp)]
  refine loopQ_intro (fun k E m' => ∃ (j : Nat), j ≤ l.length ∧ k = l.length - j ∧ E = [(0, .slice a l.length c), (1, .slice b l.length d), (5, .int .i64 (j : Nat))] ∧ Hq m m' [] []) l.length rfl ⟨0, by omega, rfl, rfl, H⟩ ?_
  clear H
  rintro k E M1 ⟨j, hj, rfl, rfl, H⟩
  by_cases hlt : j < l.length
  · refine RdS.elK (h1.frame H.fr) hlt (by decide) fun bx o x hx hix hE => ?_
    refine RdS.elK (h2.frame H.fr) hlt (by decide) fun by' o' x' hx' hix' hE' => ?_
    have : x' = x := Option.some.inj (hx'.symm.trans hx)
    subst this
    have hx0 : (ic x')[0]? = some (.int .i64 x') := rfl
    simp (disch := omega) only [go_sem, undef, dec_t (show ((j : Nat) : Int) < (l.length : Nat) by omega), hix, hE.ld0, hix', hE'.ld0, hx0]
    exact handN_intro (l.length - (j + 1)) (by omega) ⟨j + 1, by omega, rfl, rfl, H⟩
  · have e : j = l.length := by omega
    subst e
    simp (disch := omega) only [go_sem, undef, dec_f (show ¬ ((l.length : Nat) : Int) < (l.length : Nat) by omega)]
    exact ⟨rfl, H.fr⟩
end Go.Fw
