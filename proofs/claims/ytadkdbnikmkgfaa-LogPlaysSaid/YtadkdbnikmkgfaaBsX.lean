import Derived.Test.YtadkdbnikmkgfaaBsV
import Derived.Test.YtadkdbnikmkgfaaFxA
set_option linter.unusedSimpArgs false
set_option linter.unusedVariables false
namespace Go.Fw
open Go.Proofs
def logA (lb r : Nat) (cut : Dp) (l : LogL) : As where
  fp := [lb, r]
  wp := [lb, r]
  sub _ h := h
  p m := LogIs m lb r cut l
  st h e := ⟨by rw [e _ (by simp)]; exact h.box, by
    obtain ⟨es, c, hm, hh⟩ := h.map
    exact ⟨es, c, by rw [e _ (by simp)]; exact hm, hh⟩⟩
  th h := h.ex
instance {lb r : Nat} {cut : Dp} {l : LogL} {L : List As} {G : List (Nat × Obj)} [I : CellF L G] : CellF (logA lb r cut l :: L) ((lb, .cells (Value.map (some r) :: dv cut).toArray T_log_Log (0, 0)) :: G) := ⟨fun m h => ⟨h.1.box, I.h m h.2⟩⟩
theorem log_New_q (cut : Dp) (m : Mem) : CN Try.prog n_log_New [cut.v] m fun v A => ∃ lb r, v = lp lb ∧ A = logA lb r (trimD Dp.zero cut) [] :=
  MC.mono (log_New_s cut m) fun v M ⟨⟨lb, r, e, hL, h1, h2⟩, f⟩ => ⟨logA lb r (trimD Dp.zero cut) [], ⟨lb, r, e, rfl⟩, hL, f, by simp [logA, h1, h2]⟩
theorem log_Set_q {m : Mem} {lb r : Nat} {cut : Dp} {l : LogL} (h : (logA lb r cut l).p m) (k : Int × Int) (c : Cel) :
    MC Try.prog n_log_Log_Set [lp lb, pv k, c.v] m fun v m' => (v = .bool (decide (mayS cut l k c)) ∧ (logA lb r cut (if mayS cut l k c then upC k c l else l)).p m') ∧ Fr m m' (logA lb r cut l).wp :=
  MC.mono (log_Set_s h k c) fun v M ⟨h, f⟩ => ⟨h, f.sub (by simp [logA])⟩
theorem log_Trim_q {m : Mem} {lb r : Nat} {cut : Dp} {l : LogL} (h : (logA lb r cut l).p m) (upto : Dp) :
    MC Try.prog n_log_Log_Trim [lp lb, upto.v] m fun v m' => (v = .tuple #[] ∧ (logA lb r (trimD cut upto) (l.filter fun p => ¬ goneD (trimD cut upto) p.1)).p m') ∧ Fr m m' (logA lb r cut l).wp := log_Trim_s h upto
end Go.Fw
