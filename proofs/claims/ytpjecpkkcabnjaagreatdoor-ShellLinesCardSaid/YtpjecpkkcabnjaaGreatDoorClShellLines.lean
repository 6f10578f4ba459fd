/- Proved here: concordlaw29.ShellLines returns true for every input (any step's line, and back; what any line is read as has that line), and nothing that was there is changed. No condition. -/
import Derived.Test.YtpjecpkkcabnjaaGreatDoorRows
import Derived.Test.YtpjecpkkcabnjaaGreatDoorSwN
import Derived.Test.YtpjecpkkcabnjaaGreatDoorFxB
import Derived.Test.YtpjecpkkcabnjaaGreatDoorFxA
import Derived.WalkKit
import Derived.ProofKit
import Derived.OpenShut
import Derived.LaidMore
import Derived.Stop.Joined
import Derived.Lay
import Derived.SevenTiedAt
import Derived.Test.YtpjecpkkcabnjaaGreatDoorCards
import Derived.Test.YtpjecpkkcabnjaaGreatDoorTie
namespace Go.Proofs.YtpjecpkkcabnjaaGreatDoor.shellLines
open Go.ChangeShapes Go.WideShapes Go.ChangeAt Go.RowKit
set_option linter.unusedVariables false

theorem own : ownKnob Tryz.prog.godebug = none := by kernel_rfl
theorem laid : laidOutB Tryz.prog = true := by kernel_rfl

theorem door_met (os : Os) (args : Array Value) : laidMetH Tryz.prog Rows.shellLinesRow.laid ((World.laidAll Tryz.prog os Rows.shellLinesRow.laid).forCall (fun _ _ => 0) ⟨#[], args, []⟩).memory := by
  have hf : (Rows.shellLinesRow.laid.filter fun x => x.2.handleName?.isNone) = Rows.shellLinesRow.laid := by kernel_rfl
  refine laidMetH_of_parts3 (fuel := 8) ?_ (by kernel_rfl) (by kernel_rfl)
  rw [hf]
  exact laidMet_laidAll _ (by kernel_rfl) (by kernel_rfl)

set_option maxRecDepth 100000 in
theorem lifted (os : Os) (started : os.Started) (H : Type) (enc : TypeId × Value → H) :
    ReturnsInHanded {} Tryz.checked os 3 .any (fun w args => (Rows.shellLinesSpec.pre enc Tryz.prog Tryz.f3 [] false w args ∧ laidMetH Tryz.prog Rows.shellLinesRow.laid w) ∧ sizedMet enc Tryz.prog Tryz.f3 (OpenSpec.ofChange Rows.shellLinesSpec) false w args)
      (Rows.shellLinesSpec.post enc Tryz.prog Tryz.f3 false true false false) := by
  refine returnsInHanded_of_change_and (C := Tryz.checked) (X := fun w _ => laidMetH Tryz.prog Rows.shellLinesRow.laid w) (fun _ _ _ hh h => h.of_heap hh) own started (by kernel_rfl) Tryz.func3
    (ChangeSpec.witness_shaped (enc := enc) (C := Tryz.checked) (os := os) (X := fun w _ => laidMetH Tryz.prog Rows.shellLinesRow.laid w) false (World.laidAll Tryz.prog os Rows.shellLinesRow.laid) #[.agg #[.int .i64 0, .int .i64 0, .int .i64 0, .int .i64 0, .int .i64 0, .int .i64 0, .int .i64 0, .string ⟨#[]⟩, .string ⟨#[]⟩, .string ⟨#[]⟩, .string ⟨#[]⟩, .slice none 0 0], .string ⟨#[]⟩] 8 (World.laidAll_os _ _ _) (World.shaped_of_ZipB (by kernel_rfl) (by kernel_rfl)) (by kernel_rfl) (by kernel_rfl) (by kernel_rfl) (door_met os _)) ?_
  intro W base args ds gs before hval0 hW _ hZ0 hX _
  have hval : ∀ (j : Nat) t v, Tryz.f3.params[j]? = some t → args[j]? = some v → Value.okWide Tryz.prog W .any base t v := hval0
  have hW' := hW
  obtain ⟨p, q, hA0, hV, rfl, hfz, hnd⟩ := hW
  have hA : DataW.TrodAll enc Tryz.prog W 0 (fun _ => true) true Tryz.f3.params.toList args.toList ds p := hA0
  have hAk := hA
  have hZ : (DataW.weightsEach Tryz.prog (Tryz.f3.params.toList ++ Rows.shellLinesSpec.plain.varTypes Tryz.prog) (ds ++ gs)).all (· ≤ reachBytes) = true := hZ0
  rw [Tryz.params3] at hA hval hZ
  have hlt : ∀ x ∈ p, x.block < W.heap.size := fun x hx => hW'.lt x (List.mem_append_left _ hx)
  obtain ⟨v0, vs0, d0, ds0, p0, q0, hargs, rfl, rfl, h0, r0⟩ := trodAll_cons hA
  obtain ⟨v1, vs1, d1, ds1, p1, q1, rfl, rfl, rfl, h1, r1⟩ := trodAll_cons r0
  obtain ⟨rfl, rfl, rfl⟩ := trodAll_nil r1
  obtain rfl : args = #[v0, v1] := by cases args; simp_all
  obtain ⟨rfl, rfl⟩ := trodVars_none hV
  have hz0 : ∀ n ∈ d0.weights Tryz.prog 26, n ≤ reachBytes := Go.Fw.wt_at (j := 0) (t := 26) (d := d0) hZ rfl rfl
  have hz1 : ∀ n ∈ d1.weights Tryz.prog 9, n ≤ reachBytes := Go.Fw.wt_at (j := 1) (t := 9) (d := d1) hZ rfl rfl
  obtain ⟨s, a, c, rfl, ok, hL, hp, hn⟩ := Go.Fw.open_stp (hval 0 26 v0 rfl rfl) h0 hz0
  obtain ⟨l, rfl, hl⟩ := Go.Fw.open_txt (hval 1 9 v1 rfl rfl) h1 hz1
  refine (Go.Fw.calls_of (args := [.agg (Go.Fw.stc s a s.picks.length c).toArray, Go.Fw.strV l]) (Go.Fw.sl_s Go.Fw.runs_ok (Go.Fw.gs_of hX) ok hL hp hn hl)).mono fun e W' ⟨he, hb⟩ => ?_
  subst he
  exact ⟨_, rfl, Go.Fw.law_end hW' hb (fun _ _ _ => (trodAll_cons_mk (shut_bool Tryz.underlying4 _) trodAll_mk0))
    (fun sp hsp => Go.Fw.trodAll_stays laid (by decide +kernel) hAk (fun x hx => Go.Fw.sameAt_of hb (hlt x hx)) (fun x hx => hsp x (List.mem_append_left _ hx))) (fun _ => rfl)
    (ok_one (by kernel_rfl) rfl (okWide_bool_mk Tryz.underlying4 _))⟩

theorem c1 : Go.Fw.J1 Tryz.pinned.checked.prog 3 Tryz.f3 Rows.shellLinesSpec Rows.shellLinesRow := by unfold Go.Fw.J1; kernel_rfl
theorem c2 : Go.Fw.J2 Tryz.pinned.checked.prog 3 Tryz.f3 Rows.shellLinesSpec Rows.shellLinesRow := by unfold Go.Fw.J2; kernel_rfl
theorem c3 : Go.Fw.J3 Tryz.pinned.checked.prog 3 Tryz.f3 Rows.shellLinesSpec Rows.shellLinesRow := by unfold Go.Fw.J3; kernel_rfl
theorem c4 : Go.Fw.J4 Tryz.pinned.checked.prog 3 Tryz.f3 Rows.shellLinesSpec Rows.shellLinesRow := by unfold Go.Fw.J4; kernel_rfl
theorem c5 : Go.Fw.J5 Tryz.pinned.checked.prog 3 Tryz.f3 Rows.shellLinesSpec Rows.shellLinesRow := by unfold Go.Fw.J5; kernel_rfl
theorem c6 : Go.Fw.J6 Tryz.pinned.checked.prog 3 Tryz.f3 Rows.shellLinesSpec Rows.shellLinesRow := by unfold Go.Fw.J6; kernel_rfl
theorem c7 : Go.Fw.J7 Tryz.pinned.checked.prog 3 Tryz.f3 Rows.shellLinesSpec Rows.shellLinesRow := by unfold Go.Fw.J7; kernel_rfl
theorem c8 : Go.Fw.J8 Tryz.pinned.checked.prog 3 Tryz.f3 Rows.shellLinesSpec Rows.shellLinesRow := by unfold Go.Fw.J8; kernel_rfl
theorem c9 : Go.Fw.J9 Tryz.pinned.checked.prog 3 Tryz.f3 Rows.shellLinesSpec Rows.shellLinesRow := by unfold Go.Fw.J9; kernel_rfl
theorem c10 : Go.Fw.J10 Tryz.pinned.checked.prog 3 Tryz.f3 Rows.shellLinesSpec Rows.shellLinesRow := by unfold Go.Fw.J10; kernel_rfl
theorem c11 : Go.Fw.J11 Tryz.pinned.checked.prog 3 Tryz.f3 Rows.shellLinesSpec Rows.shellLinesRow := by unfold Go.Fw.J11; kernel_rfl
theorem c12 : Go.Fw.J12 Tryz.pinned.checked.prog 3 Tryz.f3 Rows.shellLinesSpec Rows.shellLinesRow := by unfold Go.Fw.J12; kernel_rfl
theorem c13 : Go.Fw.J13 Tryz.pinned.checked.prog 3 Tryz.f3 Rows.shellLinesSpec Rows.shellLinesRow := by unfold Go.Fw.J13; kernel_rfl
theorem c14 : Go.Fw.J14 Tryz.pinned.checked.prog 3 Tryz.f3 Rows.shellLinesSpec Rows.shellLinesRow := by unfold Go.Fw.J14; kernel_rfl
theorem c15 : Go.Fw.J15 Tryz.pinned.checked.prog 3 Tryz.f3 Rows.shellLinesSpec Rows.shellLinesRow := by unfold Go.Fw.J15; kernel_rfl
theorem c16 : Go.Fw.J16 Tryz.pinned.checked.prog 3 Tryz.f3 Rows.shellLinesSpec Rows.shellLinesRow := by unfold Go.Fw.J16; kernel_rfl
theorem c17 : Go.Fw.J17 Tryz.pinned.checked.prog 3 Tryz.f3 Rows.shellLinesSpec Rows.shellLinesRow := by unfold Go.Fw.J17; kernel_rfl
theorem c18 : Go.Fw.J18 Tryz.pinned.checked.prog 3 Tryz.f3 Rows.shellLinesSpec Rows.shellLinesRow := by unfold Go.Fw.J18; kernel_rfl
theorem c19 : Go.Fw.J19 Tryz.pinned.checked.prog 3 Tryz.f3 Rows.shellLinesSpec Rows.shellLinesRow := by unfold Go.Fw.J19; kernel_rfl
theorem c20 : Go.Fw.J20 Tryz.pinned.checked.prog 3 Tryz.f3 Rows.shellLinesSpec Rows.shellLinesRow := by unfold Go.Fw.J20; kernel_rfl
theorem c21 : Go.Fw.J21 Tryz.pinned.checked.prog 3 Tryz.f3 Rows.shellLinesSpec Rows.shellLinesRow := by unfold Go.Fw.J21; kernel_rfl
theorem c22 : Go.Fw.J22 Tryz.pinned.checked.prog 3 Tryz.f3 Rows.shellLinesSpec Rows.shellLinesRow := by unfold Go.Fw.J22; kernel_rfl
theorem c23 : Go.Fw.J23 Tryz.pinned.checked.prog 3 Tryz.f3 Rows.shellLinesSpec Rows.shellLinesRow := by unfold Go.Fw.J23; kernel_rfl
theorem c24 : Go.Fw.J24 Tryz.pinned.checked.prog 3 Tryz.f3 Rows.shellLinesSpec Rows.shellLinesRow := by unfold Go.Fw.J24; kernel_rfl
theorem c25 : Go.Fw.J25 Tryz.pinned.checked.prog 3 Tryz.f3 Rows.shellLinesSpec Rows.shellLinesRow := by unfold Go.Fw.J25; kernel_rfl
theorem c26 : Go.Fw.J26 Tryz.pinned.checked.prog 3 Tryz.f3 Rows.shellLinesSpec Rows.shellLinesRow := by unfold Go.Fw.J26; kernel_rfl
theorem c27 : Go.Fw.J27 Tryz.pinned.checked.prog 3 Tryz.f3 Rows.shellLinesSpec Rows.shellLinesRow := by unfold Go.Fw.J27; kernel_rfl
theorem c28 : Go.Fw.J28 Tryz.pinned.checked.prog 3 Tryz.f3 Rows.shellLinesSpec Rows.shellLinesRow := by unfold Go.Fw.J28; kernel_rfl
theorem c29 : Go.Fw.J29 Tryz.pinned.checked.prog 3 Tryz.f3 Rows.shellLinesSpec Rows.shellLinesRow := by unfold Go.Fw.J29; kernel_rfl
theorem c30 : Go.Fw.J30 Tryz.pinned.checked.prog 3 Tryz.f3 Rows.shellLinesSpec Rows.shellLinesRow := by unfold Go.Fw.J30; kernel_rfl
theorem c31 : Go.Fw.J31 Tryz.pinned.checked.prog 3 Tryz.f3 Rows.shellLinesSpec Rows.shellLinesRow := by unfold Go.Fw.J31; kernel_rfl
theorem c32 : Go.Fw.J32 Tryz.pinned.checked.prog 3 Tryz.f3 Rows.shellLinesSpec Rows.shellLinesRow := by unfold Go.Fw.J32; kernel_rfl
theorem cf : Tryz.pinned.checked.prog.funcNamed Rows.shellLinesRow.func = some 3 := by kernel_rfl
theorem cj : joinedFacts Tryz.pinned.checked.prog 3 Tryz.f3 Rows.shellLinesSpec Rows.shellLinesRow = true := Go.Fw.joined_of c1 c2 c3 c4 c5 c6 c7 c8 c9 c10 c11 c12 c13 c14 c15 c16 c17 c18 c19 c20 c21 c22 c23 c24 c25 c26 c27 c28 c29 c30 c31 c32
theorem cg : false = OpenClaim.goesBy Rows.shellLinesRow Tryz.pinned.checked.prog := Go.Fw.goes_none (by kernel_rfl) rfl
theorem cm : Tryz.pinned.checked.prog.mainIs = some (((true, "9f3cbab7b39d665a58292312ae1aa9d85e70fa3c8101ae181c13d87eda11b0e9") : Bool × String).1, ((true, "9f3cbab7b39d665a58292312ae1aa9d85e70fa3c8101ae181c13d87eda11b0e9") : Bool × String).2.toList) := by kernel_rfl
theorem ck : true = Tryz.pinned.checked.prog.looks [] := by kernel_rfl

theorem over : Rows.ShellLinesSaid := by
  show Rows.shellLinesRow.holds Tryz.pinned (OpenSpec.ofChange Rows.shellLinesSpec)
  exact OpenClaim.holds_of_wide 3 Tryz.f3 rfl rfl rfl rfl rfl rfl rfl ⟨rfl, rfl, rfl, rfl, rfl⟩ rfl rfl rfl rfl rfl cf Tryz.func3 cj
    (of_decide_eq_true (by kernel_rfl)) (by unfold Func.isWrapper; first | (rw [if_pos (by decide +kernel)]; kernel_rfl) | (rw [if_neg (by decide +kernel)]; exact ⟨rfl, rfl⟩))
    (fun os started H enc _ => lifted os started H enc)

theorem proved : Rows.ShellLinesCardSaid :=
  Claim7.holds_tied_plain_at .later [] [.data, .data, .data, .data, .sentinel, .sentinel, .pinned] true (true, "9f3cbab7b39d665a58292312ae1aa9d85e70fa3c8101ae181c13d87eda11b0e9") true
    over (fun _ h => by cases h) (by as_aux_lemma => kernel_rfl) (fun _ h => by cases h) shellLines_row_tie rfl ⟨rfl, rfl⟩ cm rfl
    (fun f fn hf hfn => by
      obtain rfl : f = 3 := Option.some.inj (cf.symm.trans hf) |>.symm
      obtain rfl : fn = Tryz.f3 := (Option.some.inj (Tryz.func3.symm.trans hfn)).symm
      exact ⟨ck, fun j t ht => by
        rw [Tryz.params3] at ht
        have hm : t ∈ [26, 9] := by simpa using Array.mem_of_getElem? ht
        have hall : ([26, 9].all fun u => !Tryz.prog.wantsStandIn u) = true := by kernel_rfl
        exact (show Tryz.prog.wantsStandIn t = false by simpa using List.all_eq_true.1 hall t hm)⟩)
    cg
#print axioms proved
end Go.Proofs.YtpjecpkkcabnjaaGreatDoor.shellLines
