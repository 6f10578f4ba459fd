/- Proved here: concordlaw20.ExecSame returns true for every input (THE ONE ORDER, without the document's own answer: all committed ones known at once, or some of them first and the others later, and later: of two one of which reaches the other the order in which they are done is the same), and nothing that was there is changed. No condition. -/
import Derived.Test.YthmfahaebogibaaRows
import Derived.Test.YthmfahaebogibaaLw
import Derived.Test.YthmfahaebogibaaFxB
import Derived.WalkKit
import Derived.ProofKit
import Derived.OpenShut
namespace Go.Proofs.Ythmfahaebogibaa.execSame
open Go.ChangeShapes Go.WideShapes Go.ChangeAt Go.RowKit
set_option linter.unusedVariables false

theorem own : ownKnob Try.prog.godebug = none := by kernel_rfl
theorem laid : laidOutB Try.prog = true := by kernel_rfl

set_option maxRecDepth 100000 in
theorem lifted (os : Os) (started : os.Started) (H : Type) (enc : TypeId × Value → H) :
    ReturnsInHanded {} Try.checked os 5 .any (Rows.execSameSpec.pre6 enc Try.prog Try.f5 Rows.execSameRow.domain false) (Rows.execSameSpec.post enc Try.prog Try.f5 false true false false) := by
  refine returnsInHanded_of_change (C := Try.checked) own started (by kernel_rfl) Try.func5
    (ChangeSpec.witness6 (enc := enc) (C := Try.checked) false ⟨#[], #[.slice none 0 0, .slice none 0 0], []⟩ 8 (by kernel_rfl) (by kernel_rfl) (by kernel_rfl) (by kernel_rfl)) ?_
  intro W base args ds gs before hval0 hW hcnd _
  have hval : ∀ (j : Nat) t v, Try.f5.params[j]? = some t → args[j]? = some v → Value.okWide Try.prog W .any base t v := hval0
  have hW' := hW
  obtain ⟨p, q, hA0, hV, rfl, hfz, hnd⟩ := hW
  have hA : DataW.TrodAll enc Try.prog W 0 (fun _ => true) true Try.f5.params.toList args.toList ds p := hA0
  have hAk := hA
  rw [Try.params5] at hA hval
  have hlt : ∀ x ∈ p, x.block < W.heap.size := fun x hx => hW'.lt x (List.mem_append_left _ hx)
  obtain ⟨v0, vs0, d0, ds0, p0, q0, hargs, rfl, rfl, h0, r0⟩ := trodAll_cons hA
  obtain ⟨v1, vs1, d1, ds1, p1, q1, rfl, rfl, rfl, h1, r1⟩ := trodAll_cons r0
  obtain ⟨rfl, rfl, rfl⟩ := trodAll_nil r1
  obtain rfl : args = #[v0, v1] := by cases args; simp_all
  obtain ⟨rfl, rfl⟩ := trodVars_none hV
  obtain ⟨l0, hr0, hx0, hn0⟩ := Go.Fw.open_many Go.Fw.dec_kn (fun _ => rfl) Try.underlying25 (by kernel_rfl) (by decide) (hval 0 25 v0 rfl rfl) h0
  obtain ⟨l1, hr1, hx1, hn1⟩ := Go.Fw.open_many Go.Fw.dec_int (fun _ => rfl) Try.underlying55 (by kernel_rfl) (by decide) (hval 1 55 v1 rfl rfl) h1
  refine (Go.Fw.calls_of (args := [v0, v1]) (Go.Fw.law_Same_s Go.Fw.law_Runs_s hr0 hx0 hn0 hr1 hx1 hn1)).mono fun e W' ⟨he, hb⟩ => ?_
  subst he
  exact ⟨_, rfl, Go.Fw.law_end hW' hb (fun _ _ _ => (trodAll_cons_mk (shut_bool Try.underlying4 _) trodAll_mk0))
    (fun sp hsp => Go.Fw.trodAll_stays laid (by decide +kernel) hAk (fun x hx => Go.Fw.sameAt_of hb (hlt x hx)) (fun x hx => hsp x (List.mem_append_left _ hx))) (fun _ => rfl)
    (ok_one (by kernel_rfl) rfl (okWide_bool_mk Try.underlying4 _))⟩

theorem over : Rows.execSameRow.holds Try.pinned (OpenSpec.ofChange Rows.execSameSpec) :=
  OpenClaim.holds_of_wide 5 Try.f5 rfl rfl rfl rfl rfl rfl rfl ⟨rfl, rfl, rfl, rfl, rfl⟩ rfl rfl rfl rfl rfl (by kernel_rfl) Try.func5 (by kernel_rfl)
    (of_decide_eq_true (by kernel_rfl)) (by unfold Func.isWrapper; first | (rw [if_pos (by decide +kernel)]; kernel_rfl) | (rw [if_neg (by decide +kernel)]; exact ⟨rfl, rfl⟩))
    (fun os started H enc _ => lifted os started H enc)

theorem proved : Rows.ExecSameSaid :=
  over
#print axioms proved
end Go.Proofs.Ythmfahaebogibaa.execSame
