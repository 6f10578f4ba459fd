import Derived.Test.YtbbddikmjkbglaaGreatDoorysR
import Derived.Test.YtbbddikmjkbglaaGreatDoorRows
import Derived.LaidLaws
import Derived.LaidSub
set_option linter.unusedVariables false
namespace Go.Ev
open Go.RowKit Go.ChangeShapes Go.WideShapes Go.Fw
open Go.Proofs Go.Proofs.YtbbddikmjkbglaaGreatDoor
/-- what a listed variable reads as -/
theorem lv_reads {P : Program} {w : World} : ∀ {l : List (String × DataW Unit)} {ps : List MemPlace}, DataW.LaidVars P w l ps → ∀ n d, (n, d) ∈ l → ∃ g t cs fuel p, P.globalNamed n = some g ∧ (P.globals[g]?).map (·.type) = some t ∧ w.var? P n = some cs ∧ DataW.trod (fun _ => ()) P w 0 (fun _ => true) false fuel t cs.toList = some (d, p)
  | [], _, _, _, _, hm => by cases hm
  | (n', d') :: r, ps, h, n, d, hm => by
    obtain ⟨g, t, cs, fuel, p, q, h1, h2, h3, h4, h5, _⟩ := h
    rcases List.mem_cons.1 hm with e | e
    · cases e
      exact ⟨g, t, cs, fuel, p, h1, h2, h3, h4⟩
    · exact lv_reads h5 n d e
/-- the first cell of an array of numbers -/
theorem head_of_trod {H : Type} {enc : TypeId × Value → H} {P : Program} {w : World} {base : Nat} {sp : Nat → Bool} {fuel n : Nat} {t e : TypeId} {cs : List Value} {k : IntKind} {x : Int} {r : List (DataW H)} {p : List MemPlace} (ht : P.underlying t = some (.array (n + 1) e)) (he : P.underlying e = some (.int k)) (hc : P.cellsOf e = 1)
    (h : DataW.trod enc P w base sp false fuel t cs = some (.agg (.lit (.int k x) :: r), p)) : cs[0]? = some (.int k x) := by
  cases fuel with
  | zero => simp [DataW.trod] at h
  | succ fuel =>
    simp only [DataW.trod, ht] at h
    split at h
    · rw [List.range_succ_eq_map, List.mapM_cons] at h
      obtain ⟨xs, hxs, h⟩ := Option.map_eq_some_iff.1 h
      simp only [bind, Option.bind_eq_some_iff] at hxs
      obtain ⟨y, hy, ys, hys, e1⟩ := hxs
      simp only [pure, Option.some.injEq] at e1; subst e1
      simp only [List.map_cons, Prod.mk.injEq, DataW.agg.injEq, List.cons.injEq] at h
      obtain ⟨⟨hy1, _⟩, _⟩ := h
      rw [hc, Nat.zero_mul, List.drop_zero] at hy
      cases fuel with
      | zero => simp [DataW.trod] at hy
      | succ fuel =>
        cases cs with
        | nil => simp [DataW.trod, he] at hy
        | cons c cs =>
          simp only [List.take_succ_cons, List.take_zero] at hy
          cases c <;> simp only [DataW.trod, he, reduceCtorEq] at hy
          split at hy
          · rename_i hk
            simp only [Option.some.injEq] at hy; subst hy
            simp only [DataW.lit.injEq, Lit.int.injEq] at hy1
            obtain ⟨_, rfl⟩ := hy1
            rw [hk.1]; rfl
          · cases hy
    · cases h
theorem glb_of_laid {W : World} (h : laidMetH Tryz.prog Rows.shellRunsRow.laid W) : Glb e0 CM.lf.get (absM W) := by
  have h1 := (laidMetH_iff.1 h).1
  obtain ⟨ps, hl, _, _⟩ := h1
  have hm : ("internal/strconv.uint64pow10", (Rows.laid_internal_strconv_uint64pow10 : DataW Unit)) ∈ (Rows.shellRunsRow.laid.filter fun x => x.2.handleName?.isNone) := by
    refine List.mem_filter.2 ⟨by simp [Rows.shellRunsRow], by decide +kernel⟩
  obtain ⟨g, t, cs, fuel, p, e1, e2, e3, e4⟩ := lv_reads hl _ _ hm
  have hg : Tryz.prog.globalNamed "internal/strconv.uint64pow10" = some 0 := by kernel_rfl
  have eg : g = 0 := Option.some.inj (e1.symm.trans hg)
  subst eg
  have ht : (Tryz.prog.globals[0]?).map (·.type) = some 282 := by kernel_rfl
  have et : t = 282 := Option.some.inj (e2.symm.trans ht)
  subst et
  have hc := head_of_trod (P := Tryz.prog) (e := 206) (n := 19) (by kernel_rfl) (by kernel_rfl) (by kernel_rfl) e4
  unfold World.var? at e3
  rw [hg, Option.bind_some] at e3
  have hcl : cell (absM W) (PA 0 0) = some (.int .u64 1) ∧ absM W 0 ≠ none := by
    cases ho : W.heap[0]? with
    | none => rw [ho] at e3; cases e3
    | some o =>
      rw [ho] at e3
      cases o <;> first | (cases e3; done) | skip
      rename_i c tt ff
      have e5 : c = cs := Option.some.inj e3
      have ha : absM W 0 = some (.cells c tt ff) := ho
      refine ⟨?_, by rw [ha]; simp⟩
      rw [cell_at ha, e5, ← Array.getElem?_toList]; exact hc
  intro B hB
  cases B with
  | succ B => exact (hB rfl).elim
  | zero =>
    refine ⟨hcl.2, fun ⟨b, o, e, h1, _⟩ => ?_, fun i v x hi hx => ?_⟩
    · have : CM.lf.get b = none := by cases b <;> rfl
      rw [this] at h1; cases h1
    · cases i with
      | succ i => simp [M0] at hi
      | zero =>
        simp only [M0, List.getElem?_cons_zero, Option.some.injEq] at hi
        subst hi
        simp only [re, Option.some.injEq] at hx
        subst hx
        exact hcl.1
end Go.Ev
