import Derived.Test.YtfihhmbjpmnopaaGreatDoorCiB
import Derived.Test.YtfihhmbjpmnopaaGreatDooryn3R
import Derived.Test.YtfihhmbjpmnopaaGreatDooryn5R
import Derived.Test.YtfihhmbjpmnopaaGreatDooryn7R
import Derived.Test.YtfihhmbjpmnopaaGreatDoorycR
set_option linter.unusedVariables false
set_option linter.unusedSimpArgs false
/-! What was made by New stays; the law's end, evaluated. -/
set_option maxRecDepth 100000
namespace Go.Ev
open Go.Fw Go.Proofs
variable {P : Program} {cf : Cf} {N : Nat}
theorem rel_stay {H : Nat → Prop} {ρ : Ren} {lk : Look} {m m' : Mem} (h : Rel H ρ lk m) (f : ∀ B, m B ≠ none → m' B = m B) : Rel H ρ lk m' :=
  ⟨h.fresh, fun b o hb => by
    obtain ⟨B, e, O, h1, h2, h3⟩ := h.at_ b o hb
    exact ⟨B, e, O, h1, by rw [f B (by rw [h2]; simp)]; exact h2, h3⟩, h.inj, glb_of h.glb (fun B hB hn => ⟨f B hB, hn⟩)⟩
/-- a closed call that is known to yield true -/
def cfT (g : Nat) (cf : Cf) : Cf := fun f l cm nx => cond (Nat.beq f g) (match l with | [] => some (.bool true, cm, nx) | _ => none) (cf f l cm nx)
theorem cfT_ok (hcf : CfOk P cf) {g : Nat} (hc : callable P g = true) (hg : ∀ m, MC P g [] m fun v m' => v = .bool true ∧ Fr m m' []) : CfOk P (cfT g cf) := by
  intro f l cm nx v cm' nx' h
  unfold cfT at h
  rw [cond_beq] at h
  split at h
  · rename_i hf; subst hf
    split at h
    · simp only [Option.some.injEq, Prod.mk.injEq] at h
      obtain ⟨rfl, rfl, rfl⟩ := h
      refine ⟨Nat.le_refl _, fun h ρ m l' hlt hr hl => ?_⟩
      simp only [reL, Option.some.injEq] at hl; subst hl
      refine ⟨hc, (hg m).mono fun v' m' ⟨e, f⟩ => ⟨ρ, ?_, by rw [e]; rfl⟩⟩
      have hs : ∀ B, m B ≠ none → m' B = m B := fun B hB => f B hB (by simp)
      exact ⟨fun _ h => h, fun _ _ => rfl, rel_stay hr hs, fun B hB hn => ⟨hs B hB, hn⟩⟩
    · cases h
  · exact hcf _ _ _ _ _ _ _ h
/-- a piece that ends in a return, whatever state it leaves -/
def okX (cf : Cf) (N : Nat) (c : EC) (S : St) : Bool := match evC cf peq N c endQ S.L S.cm S.nx with
  | some (x, L, _, nx) => cond (Nat.beq x 2) (cond (Nat.ble S.nx nx) (cond (hs L 4) (ceq (gt L 4) (.bool true)) false) false) false
  | none => false
theorem Pc.ex (hcf : CfOk P cf) {c : EC} {S : St} (hk : okX cf N c S = true) : ∃ S' : St, Pc P c S .r S' ∧ hs S'.L 4 = true ∧ gt S'.L 4 = .bool true := by
  unfold okX at hk
  split at hk
  · rename_i x L cm nx hr
    replace hk := cond_true_iff.1 hk; obtain ⟨h1, hk⟩ := hk
    replace hk := cond_true_iff.1 hk; obtain ⟨h2, hk⟩ := hk
    replace hk := cond_true_iff.1 hk; obtain ⟨h3, hk⟩ := hk
    rw [beq_prop] at h1; subst h1
    refine ⟨⟨L, cm, nx⟩, ⟨Nat.le_of_ble_eq_true h2, fun nc hnc h ρ m L1 hlt hrel hL Q hQ => evC_ok hcf peq_ok c hnc hr hlt hrel hL ?_⟩, h3, ceq_ok _ _ hk⟩
    intro x2 L2 cm2 nx2 _ he ρ2 m2 L2' hs hL2
    simp only [endQ, Option.some.injEq, Prod.mk.injEq] at he
    obtain ⟨h1, rfl, rfl, rfl⟩ := he
    have := xtN_inj (a := x2) (b := .r) h1; subst this
    exact hQ ρ2 m2 L2' hs hL2
  · cases hk
/-- the law's code behind the script -/
def tailC : EC := .seq (.block 3 (.loop [5, 9] e3l33)) (.seq (.reg e3r34 [5] 0) .ret)
def tailN : NC := .seq (.block 3 (.loop [5, 9] law25_ClusterIgnores_l1)) (.seq law25_ClusterIgnores_r32 .ret)
theorem tail_nc : tailC.nc = some tailN := by kernel_rfl
def stK (S : St) : St := ⟨[(5, .ptr 0 0), (9, .int .i64 0)], S.cm, S.nx⟩
abbrev cfI : Cf := cfT 14 (evF (tab rows) 10000 40)
theorem cfI_ok : CfOk Tryz.prog cfI := cfT_ok (evF_ok (tab_ok rows_ok) mixed 10000 40) (by kernel_rfl) yc_Runs
theorem q3 : okX cfI 10000 tailC (stK yn3s1) = true := by kernel_rfl
theorem q5 : okX cfI 10000 tailC (stK yn5s5) = true := by kernel_rfl
theorem q7 : okX cfI 10000 tailC (stK yn7s6) = true := by kernel_rfl
/-- what New made, still as it was -/
structure Made (m0 : Mem) (k C : Nat) (m : Mem) : Prop where
  st : ∃ (S : St) (ρ : Ren), okX cfI 10000 tailC (stK S) = true ∧ Rel (Ab (fun _ => False) S.nx) ρ S.cm.get m ∧ (∃ e, ρ 0 = some (C, e)) ∧ (∀ B, m0 B ≠ none → m B = m0 B ∧ ¬ InR ρ S.cm.get B)
  clu : ∃ N cap nf, Clu k C N cap nf m
theorem Made.stay {m0 m M : Mem} {k C : Nat} (h : Made m0 k C m) (f : Fr m M []) : Made m0 k C M := by
  obtain ⟨⟨S, ρ, h1, h2, h3, h4⟩, N, cap, nf, h5⟩ := h
  have hs : ∀ B, m B ≠ none → M B = m B := fun B hB => f B hB (by simp)
  exact ⟨⟨S, ρ, h1, rel_stay h2 hs, h3, fun B hB => ⟨by rw [hs B (by rw [(h4 B hB).1]; exact hB)]; exact (h4 B hB).1, (h4 B hB).2⟩⟩, N, cap, nf, h5.frame f⟩
theorem Made.old {m0 m : Mem} {k C : Nat} (h : Made m0 k C m) : Fr m0 m [] := by
  obtain ⟨⟨S, ρ, h1, h2, h3, h4⟩, _⟩ := h
  exact fun B hB _ => (h4 B hB).1
theorem Made.tail {m0 m : Mem} {k C : Nat} (h : Made m0 k C m) {R : Value → Mem → Prop} (hR : ∀ M, Fr m0 M [] → R (.bool true) M) :
    wpN Tryz.prog tailN (retP [.slot 4] R) [(5, .pointer (some ⟨C, 0, none⟩)), (9, .int .i64 0)] m := by
  obtain ⟨⟨S, ρ, h1, h2, ⟨e, h3⟩, h4⟩, _⟩ := h
  obtain ⟨S', hp, hh, hg⟩ := Pc.ex cfI_ok h1
  refine hp.2 tailN tail_nc (fun _ => False) ρ m _ (fun _ h => h.elim) h2 ?_ _ fun ρ2 m2 L2 hs hL2 => ?_
  · show reE ρ [(5, .ptr 0 0), (9, .int .i64 0)] = _
    simp [reE, re, h3, PA]
  · have e1 := reE_get hL2 4
    have e2 := reE_has hL2 4
    rw [hg] at e1
    rw [hh] at e2
    simp only [re, Option.some.injEq] at e1
    refine ⟨by simp [hasAll, RV.slotOf, ← e2], [.bool true], by simp [valsOf, RV.val, ← e1], hR m2 fun B hB _ => ?_⟩
    have := hs.frm B (by rw [(h4 B hB).1]; exact hB) (h4 B hB).2
    exact this.1.trans (h4 B hB).1
def addrOf : Option Value → Addr
  | some (.pointer (some a)) => a
  | _ => ⟨0, 0, none⟩
/-- the cluster's cells, out of what is known -/
theorem clu_of {H : Nat → Prop} {ρ : Ren} {lk : Look} {m : Mem} (hr : Rel H ρ lk m) {C e : Nat} (h0 : ρ 0 = some (C, e)) {k n0 : Nat} {l lN : List CV} (hc : cellsAt lk 0 = some l) (hN : cellsAt lk n0 = some lN)
    (e0 : l[0]? = some (.int .i64 k)) (e2 : l[2]? = some (.slu n0 0 k 1)) (e5 : l[5]? = some .nsl) (en : ∀ i, i < k → ∃ b, lN[i]? = some (.ptr b 0)) : ∃ N cap nf, Clu k C N cap nf m := by
  obtain ⟨_, B, e', arr, t, fr, vs, sp, g1, g2, g5, _, g3, g4⟩ := cells_inv hr hc
  rw [h0] at g1; cases g1
  obtain ⟨_, B2, e2', arr2, t2, fr2, vs2, sp2, k1, k2, k5, _, k3, k4⟩ := cells_inv hr hN
  obtain ⟨y0, a0, b0⟩ := reL_at g3 e0
  obtain ⟨y2, a2, b2⟩ := reL_at g3 e2
  obtain ⟨y5, a5, b5⟩ := reL_at g3 e5
  have at1 : ∀ {i y}, vs[i]? = some y → cellAt (m C) i = some y := fun {i y} h => by
    rw [g2]
    show arr[i]? = _
    rw [← Array.getElem?_toList, g4, List.getElem?_append_left (List.getElem?_eq_some_iff.1 h).1, h]
  have at2 : ∀ {i y}, vs2[i]? = some y → cellAt (m B2) i = some y := fun {i y} h => by
    rw [k2]
    show arr2[i]? = _
    rw [← Array.getElem?_toList, k4, List.getElem?_append_left (List.getElem?_eq_some_iff.1 h).1, h]
  obtain ⟨B3, e3, q1, q2, q3, q4, q5⟩ := re_slu b2
  rw [k1] at q1; cases q1
  refine ⟨B2, (e2' - 0) / 1, fun i => addrOf vs2[i]?, ?_, ?_, ?_, fun i hi => ?_⟩
  · rw [at1 a0]; simp only [re, Option.some.injEq] at b0; rw [← b0]
  · rw [at1 a2, q5]
  · rw [at1 a5]; simp only [re, Option.some.injEq] at b5; rw [← b5]
  · obtain ⟨b, hb⟩ := en i hi
    obtain ⟨y, ay, by'⟩ := reL_at k3 hb
    obtain ⟨Bn, en', _, hy⟩ := re_ptr by'
    rw [at2 ay, ay, hy]; rfl
theorem made_of {k : Nat} {S : St} {m0 : Mem} (hq : okX cfI 10000 tailC (stK S) = true) (hc : Ctr Tryz.prog 4 [.int .i64 k] .lf 0 (.tup [.ptr 0 0, .int .i64 0]) S.cm S.nx) {n0 : Nat} {l lN : List CV} (h1 : cellsAt S.cm.get 0 = some l) (hN : cellsAt S.cm.get n0 = some lN)
    (e0' : l[0]? = some (.int .i64 k)) (e2 : l[2]? = some (.slu n0 0 k 1)) (e5 : l[5]? = some .nsl) (en : ∀ i, i < k → ∃ b, lN[i]? = some (.ptr b 0)) :
    MC Tryz.prog 4 [.int .i64 k] m0 fun v m => (∃ C, v = .tuple #[.pointer (some ⟨C, 0, none⟩), .int .i64 0] ∧ Made m0 k C m) ∧ Fr m0 m [] := by
  have hlf : ∀ b, CM.lf.get b = none := fun b => by cases b <;> rfl
  have h0 : Rel (Ab (fun _ => False) 0) e0 CM.lf.get m0 := ⟨fun _ _ => rfl, fun b o hb => (by rw [hlf] at hb; cases hb), fun i j oi oj B e e' hi => (by rw [hlf] at hi; cases hi), fun B hB => (hB rfl).elim⟩
  refine (hc.2 (fun _ => False) e0 m0 [.int .i64 k] (fun _ h => h.elim) h0 rfl).2.mono fun v m ⟨ρ, hs, hv⟩ => ?_
  simp only [re, reL, Option.bind_eq_some_iff, Option.map_eq_some_iff] at hv
  obtain ⟨vs, ⟨x, ⟨p, hp, rfl⟩, ys, ⟨y, hy, zs, hz, rfl⟩, rfl⟩, rfl⟩ := hv
  simp only [Option.some.injEq] at hy hz
  subst hy hz
  have hfr : ∀ B, m0 B ≠ none → m B = m0 B ∧ ¬ InR ρ S.cm.get B := fun B hB => hs.frm B hB (fun ⟨b, o, e, h, _⟩ => by rw [hlf] at h; cases h)
  exact ⟨⟨p.1, rfl, ⟨S, ρ, hq, hs.rel, ⟨p.2, hp⟩, hfr⟩, clu_of hs.rel hp h1 hN e0' e2 e5 en⟩, fun B hB _ => (hfr B hB).1⟩
theorem en_of {l : List CV} {k : Nat} (h : (List.range k).all (fun i => match l[i]? with | some (.ptr _ 0) => true | _ => false) = true) : ∀ i, i < k → ∃ b, l[i]? = some (.ptr b 0) := fun i hi => by
  have := List.all_eq_true.1 h i (List.mem_range.2 hi)
  split at this
  · rename_i b hb; exact ⟨b, hb⟩
  · cases this
theorem made3 (m0 : Mem) : MC Tryz.prog 4 [.int .i64 (3 : Nat)] m0 fun v m => (∃ C, v = .tuple #[.pointer (some ⟨C, 0, none⟩), .int .i64 0] ∧ Made m0 3 C m) ∧ Fr m0 m [] :=
  made_of (S := yn3s1) (k := 3) (n0 := 1203) (l := [.int .i64 3, .slu 1196 0 3 1, .slu 1203 0 3 1, .slu 1248 0 8 1, .sl 1250 0 8 8, .nsl, .nsl]) (lN := [.ptr 5 0, .ptr 408 0, .ptr 811 0]) q3 yn3_ctr (by kernel_rfl) (by kernel_rfl) rfl rfl rfl (en_of (by kernel_rfl))
theorem made5 (m0 : Mem) : MC Tryz.prog 4 [.int .i64 (5 : Nat)] m0 fun v m => (∃ C, v = .tuple #[.pointer (some ⟨C, 0, none⟩), .int .i64 0] ∧ Made m0 5 C m) ∧ Fr m0 m [] :=
  made_of (S := yn5s5) (k := 5) (n0 := 2079) (l := [.int .i64 5, .slu 2072 0 5 1, .slu 2079 0 5 1, .slu 2124 0 8 1, .sl 2126 0 8 8, .nsl, .nsl]) (lN := [.ptr 5 0, .ptr 422 0, .ptr 839 0, .ptr 1256 0, .ptr 1673 0]) q5 yn5_ctr (by kernel_rfl) (by kernel_rfl) rfl rfl rfl (en_of (by kernel_rfl))
theorem made7 (m0 : Mem) : MC Tryz.prog 4 [.int .i64 (7 : Nat)] m0 fun v m => (∃ C, v = .tuple #[.pointer (some ⟨C, 0, none⟩), .int .i64 0] ∧ Made m0 7 C m) ∧ Fr m0 m [] :=
  made_of (S := yn7s6) (k := 7) (n0 := 3011) (l := [.int .i64 7, .slu 3004 0 7 1, .slu 3011 0 7 1, .slu 3056 0 8 1, .sl 3058 0 8 8, .nsl, .nsl]) (lN := [.ptr 5 0, .ptr 436 0, .ptr 867 0, .ptr 1298 0, .ptr 1729 0, .ptr 2160 0, .ptr 2591 0]) q7 yn7_ctr (by kernel_rfl) (by kernel_rfl) rfl rfl rfl (en_of (by kernel_rfl))
end Go.Ev
