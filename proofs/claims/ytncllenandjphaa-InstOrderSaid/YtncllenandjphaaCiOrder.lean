/- Proved here: concordlaw6.InstOrder returns true for every input (the orders are orders, what is next is above, and a set is the same in whatever order its instances came), and nothing that was there is changed. No condition. -/
import Derived.Test.YtncllenandjphaaRows
import Derived.Test.YtncllenandjphaaInOrder
import Derived.Test.YtncllenandjphaaInArgs
import Derived.Test.YtncllenandjphaaFvLaw
import Derived.WalkKit
import Derived.ProofKit
import Derived.OpenShut
namespace Go.Proofs.Ytncllenandjphaa.instOrder
open Go.ChangeShapes Go.WideShapes Go.ChangeAt Go.RowKit
set_option linter.unusedVariables false

theorem own : ownKnob Try.prog.godebug = none := by kernel_rfl
theorem laid : laidOutB Try.prog = true := by kernel_rfl

set_option maxRecDepth 100000 in
theorem lifted (os : Os) (started : os.Started) (H : Type) (enc : TypeId × Value → H) :
    ReturnsInHanded {} Try.checked os 5 .any (Rows.instOrderSpec.pre6 enc Try.prog Try.f5 Rows.instOrderRow.domain false) (Rows.instOrderSpec.post enc Try.prog Try.f5 false true false false) := by
  refine returnsInHanded_of_change (C := Try.checked) own started (by kernel_rfl) Try.func5
    (ChangeSpec.witness6 (enc := enc) (C := Try.checked) false ⟨#[], #[.agg #[.int .i64 0, .int .i64 0], .agg #[.int .i64 0, .int .i64 0], .agg #[.int .i64 0, .int .i64 0], .agg #[.int .i64 0, .int .i64 0], .agg #[.int .i64 0, .int .i64 0], .agg #[.int .i64 0, .int .i64 0], .int .i64 0], []⟩ 8 (by kernel_rfl) (by kernel_rfl) (by kernel_rfl) (by kernel_rfl)) ?_
  intro W base args ds gs before hval0 hW hcnd _
  have hval : ∀ (j : Nat) t v, Try.f5.params[j]? = some t → args[j]? = some v → Value.okWide Try.prog W .any base t v := hval0
  have hW' := hW
  obtain ⟨p, q, hA0, hV, rfl, hfz, hnd⟩ := hW
  have hA : DataW.TrodAll enc Try.prog W 0 (fun _ => true) true Try.f5.params.toList args.toList ds p := hA0
  have hAk := hA
  rw [Try.params5] at hA hval
  have hlt : ∀ x ∈ p, x.block < W.heap.size := fun x hx => hW'.lt x (List.mem_append_left _ hx)
  obtain ⟨v0, vs0, d0, ds0, p0, q0, hargs, rfl, rfl, h0, r0⟩ := trodAll_cons hA
  obtain ⟨v1, vs1, d1, ds1, p1, q1, rfl, rfl, rfl, h1, r1⟩ := trodAll_cons r0
  obtain ⟨v2, vs2, d2, ds2, p2, q2, rfl, rfl, rfl, h2, r2⟩ := trodAll_cons r1
  obtain ⟨v3, vs3, d3, ds3, p3, q3, rfl, rfl, rfl, h3, r3⟩ := trodAll_cons r2
  obtain ⟨v4, vs4, d4, ds4, p4, q4, rfl, rfl, rfl, h4, r4⟩ := trodAll_cons r3
  obtain ⟨v5, vs5, d5, ds5, p5, q5, rfl, rfl, rfl, h5, r5⟩ := trodAll_cons r4
  obtain ⟨v6, vs6, d6, ds6, p6, q6, rfl, rfl, rfl, h6, r6⟩ := trodAll_cons r5
  obtain ⟨rfl, rfl, rfl⟩ := trodAll_nil r6
  obtain rfl : args = #[v0, v1, v2, v3, v4, v5, v6] := by cases args; simp_all
  obtain ⟨rfl, rfl⟩ := trodVars_none hV
  obtain ⟨cs0, rfl, hL0⟩ := Go.Fw.open_flat (by kernel_rfl) (by kernel_rfl) (hval 0 25 v0 rfl rfl) h0
  obtain ⟨x0, y0, rfl, hx0, hy0⟩ := Go.Fw.pair_of hL0
  obtain ⟨cs1, rfl, hL1⟩ := Go.Fw.open_flat (by kernel_rfl) (by kernel_rfl) (hval 1 25 v1 rfl rfl) h1
  obtain ⟨x1, y1, rfl, hx1, hy1⟩ := Go.Fw.pair_of hL1
  obtain ⟨cs2, rfl, hL2⟩ := Go.Fw.open_flat (by kernel_rfl) (by kernel_rfl) (hval 2 25 v2 rfl rfl) h2
  obtain ⟨x2, y2, rfl, hx2, hy2⟩ := Go.Fw.pair_of hL2
  obtain ⟨cs3, rfl, hL3⟩ := Go.Fw.open_flat (by kernel_rfl) (by kernel_rfl) (hval 3 35 v3 rfl rfl) h3
  obtain ⟨x3, y3, rfl, hx3, hy3⟩ := Go.Fw.pair_of hL3
  obtain ⟨cs4, rfl, hL4⟩ := Go.Fw.open_flat (by kernel_rfl) (by kernel_rfl) (hval 4 35 v4 rfl rfl) h4
  obtain ⟨x4, y4, rfl, hx4, hy4⟩ := Go.Fw.pair_of hL4
  obtain ⟨cs5, rfl, hL5⟩ := Go.Fw.open_flat (by kernel_rfl) (by kernel_rfl) (hval 5 35 v5 rfl rfl) h5
  obtain ⟨x5, y5, rfl, hx5, hy5⟩ := Go.Fw.pair_of hL5
  obtain ⟨a6, rfl, _, _, w6⟩ := open_int Try.underlying3 (hval 6 3 v6 rfl rfl) h6
  refine (Go.Fw.calls_of (args := [.agg #[.int .i64 x0, .int .i64 y0], .agg #[.int .i64 x1, .int .i64 y1], .agg #[.int .i64 x2, .int .i64 y2], .agg #[.int .i64 x3, .int .i64 y3], .agg #[.int .i64 x4, .int .i64 y4], .agg #[.int .i64 x5, .int .i64 y5], .int .i64 a6]) (Go.Fw.iorder_spec _ (x0, y0) (x1, y1) (x2, y2) (x3, y3) (x4, y4) (x5, y5) a6 hx3)).mono fun e W' ⟨he, hb⟩ => ?_
  subst he
  exact ⟨_, rfl, Go.Fw.law_end hW' hb (fun _ _ _ => (trodAll_cons_mk (shut_bool Try.underlying4 _) trodAll_mk0))
    (fun sp hsp => Go.Fw.trodAll_stays laid (by decide +kernel) hAk (fun x hx => Go.Fw.sameAt_of hb (hlt x hx)) (fun x hx => hsp x (List.mem_append_left _ hx))) (fun _ => rfl)
    (ok_one (by kernel_rfl) rfl (okWide_bool_mk Try.underlying4 _))⟩

theorem over : Rows.instOrderRow.holds Try.pinned (OpenSpec.ofChange Rows.instOrderSpec) :=
  OpenClaim.holds_of_wide 5 Try.f5 rfl rfl rfl rfl rfl rfl rfl ⟨rfl, rfl, rfl, rfl, rfl⟩ rfl rfl rfl rfl rfl (by kernel_rfl) Try.func5 (by kernel_rfl)
    (of_decide_eq_true (by kernel_rfl)) (by unfold Func.isWrapper; first | (rw [if_pos (by decide +kernel)]; kernel_rfl) | (rw [if_neg (by decide +kernel)]; exact ⟨rfl, rfl⟩))
    (fun os started H enc _ => lifted os started H enc)

theorem proved : Rows.InstOrderSaid :=
  over
#print axioms proved
end Go.Proofs.Ytncllenandjphaa.instOrder
