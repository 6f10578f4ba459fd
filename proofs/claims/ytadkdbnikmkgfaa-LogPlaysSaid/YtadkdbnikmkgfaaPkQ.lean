import Derived.Test.YtadkdbnikmkgfaaPkP
import Derived.Test.YtadkdbnikmkgfaaBsA
set_option linter.unusedVariables false
namespace Go.Fw
open Go
def cmdT (c : Cmd) : List UInt8 := if c.kind = 2 then textB c.val else if c.kind = 4 then textB c.old ++ textB c.val else if c.kind = 5 then textB c.fin else []
def cmdB (c : Cmd) : List UInt8 := numB c.kind ++ if c.kind = 0 then [] else numB c.client ++ (numB c.seq ++ (textB c.key ++ cmdT c))
def depsB (d : Dp) : Nat → List UInt8
  | 0 => []
  | k + 1 => depsB d k ++ numB (d.g k)
def attB (a : Att) : List UInt8 := numB a.seq ++ depsB a.deps 7
def ballB (p : Int × Int) : List UInt8 := numB p.1 ++ numB p.2
def celB (c : Cel) : List UInt8 := numB c.st ++ (ballB c.pr ++ if c.st = 0 then [] else ballB c.vo ++ (cmdB c.cmd ++ (attB c.att ++ flagB c.same)))
def recB (i : Int × Int) (c : Cel) : List UInt8 := ballB i ++ celB c

def RS.two (b : List UInt8) (s : RS) : (Int × Int) × RS := (((s.num b).1, ((s.num b).2.num b).1), ((s.num b).2.num b).2)
def getCmdT (b : List UInt8) (c : Cmd) (s : RS) : Cmd × RS :=
  if c.kind = 2 then ({ c with val := (s.text b 64).1 }, (s.text b 64).2) else
  if c.kind = 4 then ({ c with old := (s.text b 64).1, val := ((s.text b 64).2.text b 64).1 }, ((s.text b 64).2.text b 64).2) else
  if c.kind = 5 then ({ c with fin := (s.text b 16).1 }, (s.text b 16).2) else (c, s)
def getCmd0 (b : List UInt8) (s : RS) : Cmd × RS :=
  if (s.num b).1 = 0 then ({ Cmd.zero with kind := (s.num b).1 }, (s.num b).2) else
  getCmdT b ⟨(s.num b).1, ((s.num b).2.two b).1.1, ((s.num b).2.two b).1.2, (((s.num b).2.two b).2.text b 16).1, noB, noB, noB⟩ (((s.num b).2.two b).2.text b 16).2
def RS.chk (s : RS) (ok : Bool) : RS := if s.wr = 0 ∧ ok = false then s.bad else s
def getCmdR (b : List UInt8) (s : RS) : Cmd × RS := ((getCmd0 b s).1, (getCmd0 b s).2.chk (decide (getCmd0 b s).1.right))
def getCmd (b : List UInt8) (s : RS) : Cmd × RS := (if (getCmdR b s).2.wr ≠ 0 then Cmd.zero else (getCmdR b s).1, (getCmdR b s).2)
def depsN (b : List UInt8) (s : RS) : Nat → Dp × RS
  | 0 => (Dp.zero, s)
  | k + 1 => (Dp.up (depsN b s k).1 k ((depsN b s k).2.num b).1, ((depsN b s k).2.num b).2)
def getAtt0 (b : List UInt8) (s : RS) : Att × RS := (⟨(s.num b).1, (depsN b (s.num b).2 7).1⟩, (depsN b (s.num b).2 7).2)
def Att.ok (a : Att) : Bool := decide (rightA a)
def getAttR (b : List UInt8) (s : RS) : Att × RS := ((getAtt0 b s).1, (getAtt0 b s).2.chk (getAtt0 b s).1.ok)
def getAtt (b : List UInt8) (s : RS) : Att × RS := (if (getAttR b s).2.wr ≠ 0 then Att.zero else (getAttR b s).1, (getAttR b s).2)
def endCel (c : Cel) (s : RS) : Cel × RS := (if (s.chk (decide c.right)).wr ≠ 0 then Cel.zero else c, s.chk (decide c.right))
/-- the head of a cell: its status, its promise -/
def celH (b : List UInt8) (s : RS) : Cel × RS := ({ Cel.zero with st := (s.num b).1, pr := ((s.num b).2.two b).1 }, ((s.num b).2.two b).2)
def celP (b : List UInt8) (c : Cel) (s : RS) : Cel × RS :=
  ({ c with vo := (s.two b).1, cmd := (getCmd b (s.two b).2).1, att := (getAtt b (getCmd b (s.two b).2).2).1, same := ((getAtt b (getCmd b (s.two b).2).2).2.flag b).1 }, ((getAtt b (getCmd b (s.two b).2).2).2.flag b).2)
def celR (b : List UInt8) (c : Cel) (s : RS) : Cel × RS :=
  ({ c with vo := (s.two b).1, cmd := (getCmdR b (s.two b).2).1, att := (getAttR b (getCmdR b (s.two b).2).2).1, same := ((getAttR b (getCmdR b (s.two b).2).2).2.flag b).1 }, ((getAttR b (getCmdR b (s.two b).2).2).2.flag b).2)
def getCel (b : List UInt8) (s : RS) : Cel × RS :=
  if (celH b s).1.st ≠ 0 then endCel (celP b (celH b s).1 (celH b s).2).1 (celP b (celH b s).1 (celH b s).2).2 else endCel (celH b s).1 (celH b s).2
def getCelR (b : List UInt8) (s : RS) : Cel × RS :=
  if (celH b s).1.st ≠ 0 ∧ (celH b s).2.wr = 0 then endCel (celR b (celH b s).1 (celH b s).2).1 (celR b (celH b s).1 (celH b s).2).2 else endCel (celH b s).1 (celH b s).2
def endRec (b : List UInt8) (i : Int × Int) (c : Cel) (s : RS) : (Int × Int) × Cel × Int :=
  if (s.fin b).wr ≠ 0 then ((0, 0), Cel.zero, (s.fin b).wr) else if rightI i then (i, c, 0) else ((0, 0), Cel.zero, 4)
def replay (b : List UInt8) : (Int × Int) × Cel × Int := endRec b ((RS.mk 0 0).two b).1 (getCel b ((RS.mk 0 0).two b).2).1 (getCel b ((RS.mk 0 0).two b).2).2

theorem RS.two_bad {b : List UInt8} {s : RS} (h : s.wr ≠ 0) : s.two b = ((0, 0), s) := by simp [RS.two, RS.num_bad h]
theorem RS.chk_bad {s : RS} {x : Bool} (h : s.wr ≠ 0) : s.chk x = s := by simp [RS.chk, h]
theorem getCmd0_bad {b : List UInt8} {s : RS} (h : s.wr ≠ 0) : getCmd0 b s = (Cmd.zero, s) := by simp [getCmd0, RS.num_bad h]
theorem getCmdR_bad {b : List UInt8} {s : RS} (h : s.wr ≠ 0) : getCmdR b s = (Cmd.zero, s) := by simp [getCmdR, getCmd0_bad h, RS.chk_bad h]
theorem getCmd_bad {b : List UInt8} {s : RS} (h : s.wr ≠ 0) : getCmd b s = (Cmd.zero, s) := by simp [getCmd, getCmdR_bad h, h]
theorem depsN_bad {b : List UInt8} {s : RS} (h : s.wr ≠ 0) (k : Nat) : depsN b s k = (Dp.zero, s) := by
  induction k with
  | zero => rfl
  | succ k ih =>
    simp only [depsN, ih, RS.num_bad h, Prod.mk.injEq, and_true]
    funext i; simp [Dp.up]
theorem getAttR_bad {b : List UInt8} {s : RS} (h : s.wr ≠ 0) : getAttR b s = (Att.zero, s) := by simp [getAttR, getAtt0, RS.num_bad h, depsN_bad h, RS.chk_bad h]
theorem getAtt_bad {b : List UInt8} {s : RS} (h : s.wr ≠ 0) : getAtt b s = (Att.zero, s) := by simp [getAtt, getAttR_bad h, h]
theorem celP_bad {b : List UInt8} {c : Cel} {s : RS} (h : s.wr ≠ 0) : (celP b c s).2 = s := by simp [celP, RS.two_bad h, getCmd_bad h, getAtt_bad h, RS.flag_bad h]
theorem flag_wr {b : List UInt8} {s : RS} (h : (s.flag b).2.wr = 0) : s.wr = 0 := Classical.byContradiction fun e => by rw [RS.flag_bad e] at h; exact e h
theorem getAttR_wr {b : List UInt8} {s : RS} (h : (getAttR b s).2.wr = 0) : s.wr = 0 := Classical.byContradiction fun e => by rw [getAttR_bad e] at h; exact e h
theorem endCel_bad {c : Cel} {s : RS} (h : s.wr ≠ 0) : endCel c s = (Cel.zero, s) := by simp [endCel, RS.chk_bad h, h]
theorem getCel_eq (b : List UInt8) (s : RS) : getCel b s = getCelR b s := by
  unfold getCel getCelR
  by_cases h : (celH b s).1.st ≠ 0
  · by_cases h2 : (celH b s).2.wr = 0
    · rw [if_pos h, if_pos ⟨h, h2⟩]
      have e2 : (celP b (celH b s).1 (celH b s).2).2 = (celR b (celH b s).1 (celH b s).2).2 := rfl
      by_cases h3 : (celR b (celH b s).1 (celH b s).2).2.wr = 0
      · have h4 := flag_wr h3
        have h5 := getAttR_wr h4
        have e1 : (celP b (celH b s).1 (celH b s).2).1 = (celR b (celH b s).1 (celH b s).2).1 := by
          simp only [celP, celR, getAtt, getCmd, h4, h5, ne_eq, not_true_eq_false, if_false]
        rw [e1, e2]
      · rw [endCel_bad (by rw [e2]; exact h3), endCel_bad h3, e2]
    · rw [if_pos h, if_neg (fun h3 => h2 h3.2), endCel_bad (by rw [celP_bad h2]; exact h2), endCel_bad h2, celP_bad h2]
  · rw [if_neg h, if_neg (fun h3 => h h3.1)]
end Go.Fw
