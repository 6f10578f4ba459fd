import Derived.SevenTiedAt
/-! A great program's closed facts, one by one. -/
set_option linter.unusedVariables false
namespace Go.Fw
open Go
def J1 (P : Program) (f : FuncId) (fn : Func) (s : ChangeSpec) (c : OpenClaim) : Prop := OpenClaim.wf (OpenSpec.ofChange s) c = true
def J2 (P : Program) (f : FuncId) (fn : Func) (s : ChangeSpec) (c : OpenClaim) : Prop := laidOutB P = true
def J3 (P : Program) (f : FuncId) (fn : Func) (s : ChangeSpec) (c : OpenClaim) : Prop := mapsRowed P = true
def J4 (P : Program) (f : FuncId) (fn : Func) (s : ChangeSpec) (c : OpenClaim) : Prop := (fn.params.all fun x => P.readableRec x) = true
def J5 (P : Program) (f : FuncId) (fn : Func) (s : ChangeSpec) (c : OpenClaim) : Prop := namedTie P c.named s.vars = true
def J6 (P : Program) (f : FuncId) (fn : Func) (s : ChangeSpec) (c : OpenClaim) : Prop := (c.stops == []) = true
def J7 (P : Program) (f : FuncId) (fn : Func) (s : ChangeSpec) (c : OpenClaim) : Prop := (P.stops == []) = true
def J8 (P : Program) (f : FuncId) (fn : Func) (s : ChangeSpec) (c : OpenClaim) : Prop := (c.knobs == []) = true
def J9 (P : Program) (f : FuncId) (fn : Func) (s : ChangeSpec) (c : OpenClaim) : Prop := (P.stopKnobs == []) = true
def J10 (P : Program) (f : FuncId) (fn : Func) (s : ChangeSpec) (c : OpenClaim) : Prop := (c.inPlace == P.inPlace f) = true
def J11 (P : Program) (f : FuncId) (fn : Func) (s : ChangeSpec) (c : OpenClaim) : Prop := (c.unfollowed == P.unfollowed f) = true
def J12 (P : Program) (f : FuncId) (fn : Func) (s : ChangeSpec) (c : OpenClaim) : Prop := (c.recurses == P.recurses f) = true
def J13 (P : Program) (f : FuncId) (fn : Func) (s : ChangeSpec) (c : OpenClaim) : Prop := (c.named == P.varsNamed f) = true
def J14 (P : Program) (f : FuncId) (fn : Func) (s : ChangeSpec) (c : OpenClaim) : Prop := (c.maps == (fn.params.toList ++ DataSpec.varTypes P s.plain).any fun x => P.mapsRec x) = true
def J15 (P : Program) (f : FuncId) (fn : Func) (s : ChangeSpec) (c : OpenClaim) : Prop := (c.ifaces == (fn.params.toList ++ DataSpec.varTypes P s.plain).any fun x => P.ifacesRec x) = true
def J16 (P : Program) (f : FuncId) (fn : Func) (s : ChangeSpec) (c : OpenClaim) : Prop := (c.mapsOut == P.mapsAmong fn.resultTypes.toList) = true
def J17 (P : Program) (f : FuncId) (fn : Func) (s : ChangeSpec) (c : OpenClaim) : Prop := (c.loops == (fn.params.toList ++ DataSpec.varTypes P s.plain).any fun x => P.loopsFrom x) = true
def J18 (P : Program) (f : FuncId) (fn : Func) (s : ChangeSpec) (c : OpenClaim) : Prop := (c.wideKeys == (fn.params.toList ++ DataSpec.varTypes P s.plain ++ fn.resultTypes.toList).any fun x => P.wideKeysFrom x) = true
def J19 (P : Program) (f : FuncId) (fn : Func) (s : ChangeSpec) (c : OpenClaim) : Prop := (s.vars.all fun x => P.varReadable x) = true
def J20 (P : Program) (f : FuncId) (fn : Func) (s : ChangeSpec) (c : OpenClaim) : Prop := (fn.resultTypes.all fun t => P.readableRec t && decide (t < P.types.size)) = true
def J21 (P : Program) (f : FuncId) (fn : Func) (s : ChangeSpec) (c : OpenClaim) : Prop := (c.ifacesOut == fn.resultTypes.toList.any fun x => P.ifacesRec x) = true
def J22 (P : Program) (f : FuncId) (fn : Func) (s : ChangeSpec) (c : OpenClaim) : Prop := (c.loopsOut == fn.resultTypes.toList.any fun x => P.loopsFrom x) = true
def J23 (P : Program) (f : FuncId) (fn : Func) (s : ChangeSpec) (c : OpenClaim) : Prop := (c.plainKeys == P.plainKeys) = true
def J24 (P : Program) (f : FuncId) (fn : Func) (s : ChangeSpec) (c : OpenClaim) : Prop := c.shortTexts.isNone = true
def J25 (P : Program) (f : FuncId) (fn : Func) (s : ChangeSpec) (c : OpenClaim) : Prop := P.stopsHeard = true
def J26 (P : Program) (f : FuncId) (fn : Func) (s : ChangeSpec) (c : OpenClaim) : Prop := P.mayEnter = true
def J27 (P : Program) (f : FuncId) (fn : Func) (s : ChangeSpec) (c : OpenClaim) : Prop := (c.lifted == P.liftsFinal) = true
def J28 (P : Program) (f : FuncId) (fn : Func) (s : ChangeSpec) (c : OpenClaim) : Prop := (P.make == some c.make) = true
def J29 (P : Program) (f : FuncId) (fn : Func) (s : ChangeSpec) (c : OpenClaim) : Prop := (c.kinds == if c.domain.isEmpty = true then [] else List.map (fun t => match P.underlying t with | some (TypeDesc.int k) => some k | x => none) fn.params.toList) = true
def J30 (P : Program) (f : FuncId) (fn : Func) (s : ChangeSpec) (c : OpenClaim) : Prop := (c.pinned == c.pinnedBy) = true
def J31 (P : Program) (f : FuncId) (fn : Func) (s : ChangeSpec) (c : OpenClaim) : Prop := (c.veiled == (fn.params.toList ++ DataSpec.varTypes P s.plain ++ fn.resultTypes.toList).any fun x => P.veiledRec x) = true
def J32 (P : Program) (f : FuncId) (fn : Func) (s : ChangeSpec) (c : OpenClaim) : Prop := c.veiledFits P fn.params.toList (fn.params.toList ++ DataSpec.varTypes P s.plain ++ fn.resultTypes.toList) = true
theorem joined_of {P : Program} {f : FuncId} {fn : Func} {s : ChangeSpec} {c : OpenClaim} (h1 : J1 P f fn s c) (h2 : J2 P f fn s c) (h3 : J3 P f fn s c) (h4 : J4 P f fn s c) (h5 : J5 P f fn s c) (h6 : J6 P f fn s c) (h7 : J7 P f fn s c) (h8 : J8 P f fn s c) (h9 : J9 P f fn s c) (h10 : J10 P f fn s c) (h11 : J11 P f fn s c) (h12 : J12 P f fn s c) (h13 : J13 P f fn s c) (h14 : J14 P f fn s c) (h15 : J15 P f fn s c) (h16 : J16 P f fn s c) (h17 : J17 P f fn s c) (h18 : J18 P f fn s c) (h19 : J19 P f fn s c) (h20 : J20 P f fn s c) (h21 : J21 P f fn s c) (h22 : J22 P f fn s c) (h23 : J23 P f fn s c) (h24 : J24 P f fn s c) (h25 : J25 P f fn s c) (h26 : J26 P f fn s c) (h27 : J27 P f fn s c) (h28 : J28 P f fn s c) (h29 : J29 P f fn s c) (h30 : J30 P f fn s c) (h31 : J31 P f fn s c) (h32 : J32 P f fn s c) : joinedFacts P f fn s c = true := by
  unfold J1 J2 J3 J4 J5 J6 J7 J8 J9 J10 J11 J12 J13 J14 J15 J16 J17 J18 J19 J20 J21 J22 J23 J24 J25 J26 J27 J28 J29 J30 J31 J32 at *
  unfold joinedFacts
  rw [h1, h2, h3, h4, h5, h6, h7, h8, h9, h10, h11, h12, h13, h14, h15, h16, h17, h18, h19, h20, h21, h22, h23, h24, h25, h26, h27, h28, h30, h31, h32]
  simp only [Bool.and_true, Bool.true_and]
  exact h29
theorem goes_none {P : Program} {c : OpenClaim} (h : (P.funcs.any Func.goes) = false) (hs : c.start = .entering) : false = c.goesBy P := by
  have hf : ∀ g : Nat, (P.funcs[g]?).any Func.goes = false := fun g => by
    cases hg : P.funcs[g]? with
    | none => rfl
    | some fn =>
      obtain ⟨hlt, e⟩ := Array.getElem?_eq_some_iff.1 hg
      have h2 : ¬ (∃ (i : Nat) (hi : i < P.funcs.size), Func.goes P.funcs[i] = true) := fun hx => by
        have := Array.any_eq_true.2 hx
        rw [this] at h; cases h
      cases hq : Func.goes fn with
      | false => simp [hq]
      | true => exact (h2 ⟨g, hlt, by rw [e]; exact hq⟩).elim
  have hg : ∀ f : FuncId, P.goes f = false := fun f => by
    unfold Program.goes
    rw [h, Bool.and_false, Bool.or_false]
    exact List.any_eq_false.2 fun g _ => by simp [hf g]
  unfold OpenClaim.goesBy Program.goesAt Program.goesFrom
  rw [hs, Bool.or_false]
  cases P.funcNamed c.func with
  | none => rfl
  | some f => exact (hg f).symm
end Go.Fw
