/- Proved here: concordlaw25.ClusterIgnores returns true for every input (steps that don't apply change nothing: replicas that are none, letters that aren't there, clients that are none, calls that may not be), and nothing that was there is changed. No condition. -/
import Derived.Test.YtfihhmbjpmnopaaGreatDoorRows
import Derived.Test.YtfihhmbjpmnopaaGreatDoorCiF
import Derived.Test.YtfihhmbjpmnopaaGreatDoorFxB
import Derived.Test.YtfihhmbjpmnopaaGreatDoorFxA
import Derived.WalkKit
import Derived.ProofKit
import Derived.OpenShut
import Derived.LaidMore
import Derived.Stop.Joined
import Derived.SevenTiedAt
import Derived.Test.YtfihhmbjpmnopaaGreatDoorCards
import Derived.Test.YtfihhmbjpmnopaaGreatDoorTie
namespace Go.Proofs.YtfihhmbjpmnopaaGreatDoor.clusterIgnores
open Go.ChangeShapes Go.WideShapes Go.ChangeAt Go.RowKit
set_option linter.unusedVariables false

theorem own : ownKnob Tryz.prog.godebug = none := by kernel_rfl
theorem laid : laidOutB Tryz.prog = true := by kernel_rfl

theorem door_met (os : Os) (args : Array Value) : laidMetH Tryz.prog Rows.clusterIgnoresRow.laid ((World.doorLaid Tryz.prog 4000 os).forCall (fun _ _ => 0) ⟨#[], args, []⟩).memory :=
  laidMetH_of_parts3 (fuel := 8) (laidMet_of_run' 8 (by kernel_rfl) (by kernel_rfl)) (by kernel_rfl) (by kernel_rfl)

set_option maxRecDepth 100000 in
theorem lifted (os : Os) (started : os.Started) (H : Type) (enc : TypeId × Value → H) :
    ReturnsInHanded {} Tryz.checked os 3 .any (fun w args => (Rows.clusterIgnoresSpec.pre enc Tryz.prog Tryz.f3 [] false w args ∧ laidMetH Tryz.prog Rows.clusterIgnoresRow.laid w) ∧ sizedMet enc Tryz.prog Tryz.f3 (OpenSpec.ofChange Rows.clusterIgnoresSpec) false w args)
      (Rows.clusterIgnoresSpec.post enc Tryz.prog Tryz.f3 false true false false) := by
  refine returnsInHanded_of_change_and (C := Tryz.checked) (X := fun w _ => laidMetH Tryz.prog Rows.clusterIgnoresRow.laid w) (fun _ _ _ hh h => h.of_heap hh) own started (by kernel_rfl) Tryz.func3
    (ChangeSpec.witness_shaped (enc := enc) (C := Tryz.checked) (os := os) (X := fun w _ => laidMetH Tryz.prog Rows.clusterIgnoresRow.laid w) false (World.doorLaid Tryz.prog 4000 os) #[.int .i64 0, .slice none 0 0] 8 rfl (World.shaped_of_RefB (by kernel_rfl) (by kernel_rfl)) (by kernel_rfl) (by kernel_rfl) (by kernel_rfl) (door_met os _)) ?_
  intro W base args ds gs before hval0 hW _ _ _ _
  have hval : ∀ (j : Nat) t v, Tryz.f3.params[j]? = some t → args[j]? = some v → Value.okWide Tryz.prog W .any base t v := hval0
  have hW' := hW
  obtain ⟨p, q, hA0, hV, rfl, hfz, hnd⟩ := hW
  have hA : DataW.TrodAll enc Tryz.prog W 0 (fun _ => true) true Tryz.f3.params.toList args.toList ds p := hA0
  have hAk := hA
  rw [Tryz.params3] at hA hval
  have hlt : ∀ x ∈ p, x.block < W.heap.size := fun x hx => hW'.lt x (List.mem_append_left _ hx)
  obtain ⟨v0, vs0, d0, ds0, p0, q0, hargs, rfl, rfl, h0, r0⟩ := trodAll_cons hA
  obtain ⟨v1, vs1, d1, ds1, p1, q1, rfl, rfl, rfl, h1, r1⟩ := trodAll_cons r0
  obtain ⟨rfl, rfl, rfl⟩ := trodAll_nil r1
  obtain rfl : args = #[v0, v1] := by cases args; simp_all
  obtain ⟨rfl, rfl⟩ := trodVars_none hV
  obtain ⟨a0, rfl, ha0, hb0, w0⟩ := open_int Tryz.underlying3 (hval 0 3 v0 rfl rfl) h0
  obtain ⟨a1, c1, l1, rfl, hr1, hx1, hn1⟩ := Go.Fw.open_script (hval 1 22 v1 rfl rfl) h1
  refine (Go.Fw.calls_of (args := [.int .i64 a0, .slice a1 l1.length c1]) (Go.Fw.law_s a0 (Go.Fw.i64_of (Go.Fw.r64_of w0)) hr1 hx1 hn1)).mono fun e W' ⟨he, hb⟩ => ?_
  subst he
  exact ⟨_, rfl, Go.Fw.law_end hW' hb (fun _ _ _ => (trodAll_cons_mk (shut_bool Tryz.underlying4 _) trodAll_mk0))
    (fun sp hsp => Go.Fw.trodAll_stays laid (by decide +kernel) hAk (fun x hx => Go.Fw.sameAt_of hb (hlt x hx)) (fun x hx => hsp x (List.mem_append_left _ hx))) (fun _ => rfl)
    (ok_one (by kernel_rfl) rfl (okWide_bool_mk Tryz.underlying4 _))⟩

theorem c1 : Go.Fw.J1 Tryz.pinned.checked.prog 3 Tryz.f3 Rows.clusterIgnoresSpec Rows.clusterIgnoresRow := by unfold Go.Fw.J1; kernel_rfl
theorem c2 : Go.Fw.J2 Tryz.pinned.checked.prog 3 Tryz.f3 Rows.clusterIgnoresSpec Rows.clusterIgnoresRow := by unfold Go.Fw.J2; kernel_rfl
theorem c3 : Go.Fw.J3 Tryz.pinned.checked.prog 3 Tryz.f3 Rows.clusterIgnoresSpec Rows.clusterIgnoresRow := by unfold Go.Fw.J3; kernel_rfl
theorem c4 : Go.Fw.J4 Tryz.pinned.checked.prog 3 Tryz.f3 Rows.clusterIgnoresSpec Rows.clusterIgnoresRow := by unfold Go.Fw.J4; kernel_rfl
theorem c5 : Go.Fw.J5 Tryz.pinned.checked.prog 3 Tryz.f3 Rows.clusterIgnoresSpec Rows.clusterIgnoresRow := by unfold Go.Fw.J5; kernel_rfl
theorem c6 : Go.Fw.J6 Tryz.pinned.checked.prog 3 Tryz.f3 Rows.clusterIgnoresSpec Rows.clusterIgnoresRow := by unfold Go.Fw.J6; kernel_rfl
theorem c7 : Go.Fw.J7 Tryz.pinned.checked.prog 3 Tryz.f3 Rows.clusterIgnoresSpec Rows.clusterIgnoresRow := by unfold Go.Fw.J7; kernel_rfl
theorem c8 : Go.Fw.J8 Tryz.pinned.checked.prog 3 Tryz.f3 Rows.clusterIgnoresSpec Rows.clusterIgnoresRow := by unfold Go.Fw.J8; kernel_rfl
theorem c9 : Go.Fw.J9 Tryz.pinned.checked.prog 3 Tryz.f3 Rows.clusterIgnoresSpec Rows.clusterIgnoresRow := by unfold Go.Fw.J9; kernel_rfl
theorem c10 : Go.Fw.J10 Tryz.pinned.checked.prog 3 Tryz.f3 Rows.clusterIgnoresSpec Rows.clusterIgnoresRow := by unfold Go.Fw.J10; kernel_rfl
theorem c11 : Go.Fw.J11 Tryz.pinned.checked.prog 3 Tryz.f3 Rows.clusterIgnoresSpec Rows.clusterIgnoresRow := by unfold Go.Fw.J11; kernel_rfl
theorem c12 : Go.Fw.J12 Tryz.pinned.checked.prog 3 Tryz.f3 Rows.clusterIgnoresSpec Rows.clusterIgnoresRow := by unfold Go.Fw.J12; kernel_rfl
theorem c13 : Go.Fw.J13 Tryz.pinned.checked.prog 3 Tryz.f3 Rows.clusterIgnoresSpec Rows.clusterIgnoresRow := by unfold Go.Fw.J13; kernel_rfl
theorem c14 : Go.Fw.J14 Tryz.pinned.checked.prog 3 Tryz.f3 Rows.clusterIgnoresSpec Rows.clusterIgnoresRow := by unfold Go.Fw.J14; kernel_rfl
theorem c15 : Go.Fw.J15 Tryz.pinned.checked.prog 3 Tryz.f3 Rows.clusterIgnoresSpec Rows.clusterIgnoresRow := by unfold Go.Fw.J15; kernel_rfl
theorem c16 : Go.Fw.J16 Tryz.pinned.checked.prog 3 Tryz.f3 Rows.clusterIgnoresSpec Rows.clusterIgnoresRow := by unfold Go.Fw.J16; kernel_rfl
theorem c17 : Go.Fw.J17 Tryz.pinned.checked.prog 3 Tryz.f3 Rows.clusterIgnoresSpec Rows.clusterIgnoresRow := by unfold Go.Fw.J17; kernel_rfl
theorem c18 : Go.Fw.J18 Tryz.pinned.checked.prog 3 Tryz.f3 Rows.clusterIgnoresSpec Rows.clusterIgnoresRow := by unfold Go.Fw.J18; kernel_rfl
theorem c19 : Go.Fw.J19 Tryz.pinned.checked.prog 3 Tryz.f3 Rows.clusterIgnoresSpec Rows.clusterIgnoresRow := by unfold Go.Fw.J19; kernel_rfl
theorem c20 : Go.Fw.J20 Tryz.pinned.checked.prog 3 Tryz.f3 Rows.clusterIgnoresSpec Rows.clusterIgnoresRow := by unfold Go.Fw.J20; kernel_rfl
theorem c21 : Go.Fw.J21 Tryz.pinned.checked.prog 3 Tryz.f3 Rows.clusterIgnoresSpec Rows.clusterIgnoresRow := by unfold Go.Fw.J21; kernel_rfl
theorem c22 : Go.Fw.J22 Tryz.pinned.checked.prog 3 Tryz.f3 Rows.clusterIgnoresSpec Rows.clusterIgnoresRow := by unfold Go.Fw.J22; kernel_rfl
theorem c23 : Go.Fw.J23 Tryz.pinned.checked.prog 3 Tryz.f3 Rows.clusterIgnoresSpec Rows.clusterIgnoresRow := by unfold Go.Fw.J23; kernel_rfl
theorem c24 : Go.Fw.J24 Tryz.pinned.checked.prog 3 Tryz.f3 Rows.clusterIgnoresSpec Rows.clusterIgnoresRow := by unfold Go.Fw.J24; kernel_rfl
theorem c25 : Go.Fw.J25 Tryz.pinned.checked.prog 3 Tryz.f3 Rows.clusterIgnoresSpec Rows.clusterIgnoresRow := by unfold Go.Fw.J25; kernel_rfl
theorem c26 : Go.Fw.J26 Tryz.pinned.checked.prog 3 Tryz.f3 Rows.clusterIgnoresSpec Rows.clusterIgnoresRow := by unfold Go.Fw.J26; kernel_rfl
theorem c27 : Go.Fw.J27 Tryz.pinned.checked.prog 3 Tryz.f3 Rows.clusterIgnoresSpec Rows.clusterIgnoresRow := by unfold Go.Fw.J27; kernel_rfl
theorem c28 : Go.Fw.J28 Tryz.pinned.checked.prog 3 Tryz.f3 Rows.clusterIgnoresSpec Rows.clusterIgnoresRow := by unfold Go.Fw.J28; kernel_rfl
theorem c29 : Go.Fw.J29 Tryz.pinned.checked.prog 3 Tryz.f3 Rows.clusterIgnoresSpec Rows.clusterIgnoresRow := by unfold Go.Fw.J29; kernel_rfl
theorem c30 : Go.Fw.J30 Tryz.pinned.checked.prog 3 Tryz.f3 Rows.clusterIgnoresSpec Rows.clusterIgnoresRow := by unfold Go.Fw.J30; kernel_rfl
theorem c31 : Go.Fw.J31 Tryz.pinned.checked.prog 3 Tryz.f3 Rows.clusterIgnoresSpec Rows.clusterIgnoresRow := by unfold Go.Fw.J31; kernel_rfl
theorem c32 : Go.Fw.J32 Tryz.pinned.checked.prog 3 Tryz.f3 Rows.clusterIgnoresSpec Rows.clusterIgnoresRow := by unfold Go.Fw.J32; kernel_rfl
theorem cf : Tryz.pinned.checked.prog.funcNamed Rows.clusterIgnoresRow.func = some 3 := by kernel_rfl
theorem cj : joinedFacts Tryz.pinned.checked.prog 3 Tryz.f3 Rows.clusterIgnoresSpec Rows.clusterIgnoresRow = true := Go.Fw.joined_of c1 c2 c3 c4 c5 c6 c7 c8 c9 c10 c11 c12 c13 c14 c15 c16 c17 c18 c19 c20 c21 c22 c23 c24 c25 c26 c27 c28 c29 c30 c31 c32
theorem cg : false = OpenClaim.goesBy Rows.clusterIgnoresRow Tryz.pinned.checked.prog := Go.Fw.goes_none (by kernel_rfl) rfl
theorem cm : Tryz.pinned.checked.prog.mainIs = some (((true, "ba3d15b0e5a2aeb295b74ed16a6c038f8fb23ef46072c47b63b0befbca588887") : Bool × String).1, ((true, "ba3d15b0e5a2aeb295b74ed16a6c038f8fb23ef46072c47b63b0befbca588887") : Bool × String).2.toList) := by kernel_rfl
theorem ck : true = Tryz.pinned.checked.prog.looks [] := by kernel_rfl

theorem over : Rows.ClusterIgnoresSaid := by
  show Rows.clusterIgnoresRow.holds Tryz.pinned (OpenSpec.ofChange Rows.clusterIgnoresSpec)
  exact OpenClaim.holds_of_wide 3 Tryz.f3 rfl rfl rfl rfl rfl rfl rfl ⟨rfl, rfl, rfl, rfl, rfl⟩ rfl rfl rfl rfl rfl cf Tryz.func3 cj
    (of_decide_eq_true (by kernel_rfl)) (by unfold Func.isWrapper; first | (rw [if_pos (by decide +kernel)]; kernel_rfl) | (rw [if_neg (by decide +kernel)]; exact ⟨rfl, rfl⟩))
    (fun os started H enc _ => lifted os started H enc)

theorem proved : Rows.ClusterIgnoresCardSaid :=
  Claim7.holds_tied_plain_at .later [] [.data, .data, .data, .sentinel, .sentinel] true (true, "ba3d15b0e5a2aeb295b74ed16a6c038f8fb23ef46072c47b63b0befbca588887") true
    over (fun _ h => by cases h) (by as_aux_lemma => kernel_rfl) (fun _ h => by cases h) clusterIgnores_row_tie rfl ⟨rfl, rfl⟩ cm rfl
    (fun f fn hf hfn => by
      obtain rfl : f = 3 := Option.some.inj (cf.symm.trans hf) |>.symm
      obtain rfl : fn = Tryz.f3 := (Option.some.inj (Tryz.func3.symm.trans hfn)).symm
      exact ⟨ck, fun j t ht => by
        rw [Tryz.params3] at ht
        have hm : t ∈ [3, 22] := by simpa using Array.mem_of_getElem? ht
        have hall : ([3, 22].all fun u => !Tryz.prog.wantsStandIn u) = true := by kernel_rfl
        exact (show Tryz.prog.wantsStandIn t = false by simpa using List.all_eq_true.1 hall t hm)⟩)
    cg
#print axioms proved
end Go.Proofs.YtfihhmbjpmnopaaGreatDoor.clusterIgnores
