import Derived.Test.YtimedjfpihdffaaGreatFxA
import Derived.Test.YtimedjfpihdffaaGreatCd
import Derived.Test.YtimedjfpihdffaaGreatCdL
import Derived.Test.YtimedjfpihdffaaGreatFxB
import Derived.Shelf.SlSortCmp.WholeK
set_option linter.unusedVariables false
set_option linter.unusedSimpArgs false
namespace Go.Fw
open Go.Proofs
abbrev lt2 (x y:Int × Int):Prop:=x.1 < y.1 ∨ x.1 = y.1 ∧ x.2 < y.2
abbrev rightI (p:Int × Int):Prop:=0 ≤ p.1 ∧ p.1 < 7 ∧ 1 ≤ p.2 ∧ p.2 ≤ 1073741824
abbrev rightB (p:Int × Int):Prop:=0 ≤ p.1 ∧ p.1 ≤ 1073741824 ∧ 0 ≤ p.2 ∧ p.2 < 7
abbrev rightD (d:Dp):Prop:=∀ i,0 ≤ d i ∧ d i ≤ 1073741824
abbrev rightA (a:Att):Prop:=rightD a.deps ∧ 0 ≤ a.seq ∧ a.seq ≤ 1099511627776
def Cmd.bare (c:Cmd):Cmd:={ kind:=c.kind,client:=c.client,seq:=c.seq,key:=c.key,fin:=if c.kind = 5 then c.fin else noB,old:=if c.kind = 4 then c.old else noB,val:=if c.kind = 2 ∨ c.kind = 4 then c.val else noB }
def Cmd.right (c:Cmd):Prop:=c = Cmd.zero ∨ (1 ≤ c.kind ∧ c.kind ≤ 5 ∧ 1 ≤ c.client ∧ c.client ≤ 8 ∧ 1 ≤ c.seq ∧ c.seq ≤ 1099511627776 ∧ c = c.bare ∧ c.key.size ≤ 16 ∧ c.fin.size ≤ 16 ∧ c.old.size ≤ 64 ∧ c.val.size ≤ 64 ∧ (c.key ≠ noB ∨ c.kind = 5))
instance (c:Cmd):Decidable c.right:=by unfold Cmd.right; exact inferInstance
def Cel.right (c:Cel):Prop:=0 ≤ c.st ∧ c.st ≤ 3 ∧ rightB c.pr ∧ rightB c.vo ∧ ¬ lt2 c.pr c.vo ∧ (c.same = true → c.st = 1 ∧ c.vo = (0,0)) ∧ (c.st = 0 → c = { Cel.zero with pr:=c.pr }) ∧ c.cmd.right ∧ rightA c.att
instance (c:Cel):Decidable c.right:=by unfold Cel.right; exact inferInstance
theorem inst_Right_s (p:Int × Int) (m:Mem):MC Tryz.prog n_inst_Right [pv p] m fun v m' => v = .bool (decide (rightI p)) ∧ Fr m m' []:=by
  refine Q66go (by simp [Tryz.f33]) ?_
  have H:=Hp.refl m []
  simp (disch:=omega) only [go_sem,undef]
  repeat' (first
    | (refine new_H H fun _ _ _ _ H => ?_; simp (disch:=omega) only [go_sem,undef,H.hs, *])
    | (refine gQ_split (fun hq => ?_) (fun hq => ?_) <;> (try simp only [Bool.not_true,Bool.not_false] at hq) <;> simp (disch:=omega) only [go_sem,undef,H.hs, *])
    | (refine condB_split (fun hq => ?_) (fun hq => ?_) <;> simp (disch:=omega) only [go_sem,undef,H.hs, *])
    | (refine wr0 H fun _ _ H => ?_; simp (disch:=omega) only [go_sem,undef,H.hs, *])
    | (refine wr1 H fun _ _ H => ?_; simp (disch:=omega) only [go_sem,undef,H.hs, *])
    | (refine wr2 H fun _ _ H => ?_; simp (disch:=omega) only [go_sem,undef,H.hs, *])
    | (refine wr3 H fun _ _ H => ?_; simp (disch:=omega) only [go_sem,undef,H.hs, *])
    | (refine stw0 H rfl rfl fun _ _ H => ?_; simp (disch:=omega) only [go_sem,undef,H.hs, *])
    | (refine stw1 H rfl rfl fun _ _ H => ?_; simp (disch:=omega) only [go_sem,undef,H.hs, *]))
  all_goals (try simp only [decide_eq_true_eq,decide_eq_false_iff_not] at *)
  all_goals exact ⟨by first | rfl | (simp only [Value.bool.injEq,decide_eq_true_eq,eq_comm (a:=true),eq_comm (a:=false),decide_eq_false_iff_not,decide_eq_decide]; grind []),H.fr⟩
theorem inst_RightBallot_s (p:Int × Int) (m:Mem):MC Tryz.prog n_inst_RightBallot [pv p] m fun v m' => v = .bool (decide (rightB p)) ∧ Fr m m' []:=by
  refine Q39go (by simp [Tryz.f33]) ?_
  have H:=Hp.refl m []
  simp (disch:=omega) only [go_sem,undef]
  repeat' (first
    | (refine new_H H fun _ _ _ _ H => ?_; simp (disch:=omega) only [go_sem,undef,H.hs, *])
    | (refine gQ_split (fun hq => ?_) (fun hq => ?_) <;> (try simp only [Bool.not_true,Bool.not_false] at hq) <;> simp (disch:=omega) only [go_sem,undef,H.hs, *])
    | (refine condB_split (fun hq => ?_) (fun hq => ?_) <;> simp (disch:=omega) only [go_sem,undef,H.hs, *])
    | (refine wr0 H fun _ _ H => ?_; simp (disch:=omega) only [go_sem,undef,H.hs, *])
    | (refine wr1 H fun _ _ H => ?_; simp (disch:=omega) only [go_sem,undef,H.hs, *])
    | (refine wr2 H fun _ _ H => ?_; simp (disch:=omega) only [go_sem,undef,H.hs, *])
    | (refine wr3 H fun _ _ H => ?_; simp (disch:=omega) only [go_sem,undef,H.hs, *])
    | (refine stw0 H rfl rfl fun _ _ H => ?_; simp (disch:=omega) only [go_sem,undef,H.hs, *])
    | (refine stw1 H rfl rfl fun _ _ H => ?_; simp (disch:=omega) only [go_sem,undef,H.hs, *]))
  all_goals (try simp only [decide_eq_true_eq,decide_eq_false_iff_not] at *)
  all_goals exact ⟨by first | rfl | (simp only [Value.bool.injEq,decide_eq_true_eq,eq_comm (a:=true),eq_comm (a:=false),decide_eq_false_iff_not,decide_eq_decide]; grind []),H.fr⟩
theorem inst_Less_s (p q:Int × Int) (m:Mem):MC Tryz.prog n_inst_Less [pv p,pv q] m fun v m' => v = .bool (decide (lt2 p q)) ∧ Fr m m' []:=by
  refine Q93go (by simp [Tryz.f33]) ?_
  have H:=Hp.refl m []
  simp (disch:=omega) only [go_sem,undef]
  repeat' (first
    | (refine new_H H fun _ _ _ _ H => ?_; simp (disch:=omega) only [go_sem,undef,H.hs, *])
    | (refine gQ_split (fun hq => ?_) (fun hq => ?_) <;> (try simp only [Bool.not_true,Bool.not_false] at hq) <;> simp (disch:=omega) only [go_sem,undef,H.hs, *])
    | (refine condB_split (fun hq => ?_) (fun hq => ?_) <;> simp (disch:=omega) only [go_sem,undef,H.hs, *])
    | (refine wr0 H fun _ _ H => ?_; simp (disch:=omega) only [go_sem,undef,H.hs, *])
    | (refine wr1 H fun _ _ H => ?_; simp (disch:=omega) only [go_sem,undef,H.hs, *])
    | (refine wr2 H fun _ _ H => ?_; simp (disch:=omega) only [go_sem,undef,H.hs, *])
    | (refine wr3 H fun _ _ H => ?_; simp (disch:=omega) only [go_sem,undef,H.hs, *])
    | (refine stw0 H rfl rfl fun _ _ H => ?_; simp (disch:=omega) only [go_sem,undef,H.hs, *])
    | (refine stw1 H rfl rfl fun _ _ H => ?_; simp (disch:=omega) only [go_sem,undef,H.hs, *]))
  all_goals (try simp only [decide_eq_true_eq,decide_eq_false_iff_not] at *)
  all_goals exact ⟨by first | rfl | (simp only [Value.bool.injEq,decide_eq_true_eq,eq_comm (a:=true),eq_comm (a:=false),decide_eq_false_iff_not,decide_eq_decide]; grind []),H.fr⟩
theorem inst_Below_s (p q:Int × Int) (m:Mem):MC Tryz.prog n_inst_Below [pv p,pv q] m fun v m' => v = .bool (decide (lt2 p q)) ∧ Fr m m' []:=by
  refine Q37go (by simp [Tryz.f33]) ?_
  have H:=Hp.refl m []
  simp (disch:=omega) only [go_sem,undef]
  repeat' (first
    | (refine new_H H fun _ _ _ _ H => ?_; simp (disch:=omega) only [go_sem,undef,H.hs, *])
    | (refine gQ_split (fun hq => ?_) (fun hq => ?_) <;> (try simp only [Bool.not_true,Bool.not_false] at hq) <;> simp (disch:=omega) only [go_sem,undef,H.hs, *])
    | (refine condB_split (fun hq => ?_) (fun hq => ?_) <;> simp (disch:=omega) only [go_sem,undef,H.hs, *])
    | (refine wr0 H fun _ _ H => ?_; simp (disch:=omega) only [go_sem,undef,H.hs, *])
    | (refine wr1 H fun _ _ H => ?_; simp (disch:=omega) only [go_sem,undef,H.hs, *])
    | (refine wr2 H fun _ _ H => ?_; simp (disch:=omega) only [go_sem,undef,H.hs, *])
    | (refine wr3 H fun _ _ H => ?_; simp (disch:=omega) only [go_sem,undef,H.hs, *])
    | (refine stw0 H rfl rfl fun _ _ H => ?_; simp (disch:=omega) only [go_sem,undef,H.hs, *])
    | (refine stw1 H rfl rfl fun _ _ H => ?_; simp (disch:=omega) only [go_sem,undef,H.hs, *]))
  all_goals (try simp only [decide_eq_true_eq,decide_eq_false_iff_not] at *)
  all_goals exact ⟨by first | rfl | (simp only [Value.bool.injEq,decide_eq_true_eq,eq_comm (a:=true),eq_comm (a:=false),decide_eq_false_iff_not,decide_eq_decide]; grind []),H.fr⟩
theorem cmd_within_s (a b:Int) (m:Mem):MC Tryz.prog n_cmd_within [.int .i64 a,.int .i64 b] m fun v m' => v = .bool (decide (1 ≤ a ∧ a ≤ b)) ∧ Fr m m' []:=by
  refine Q40go (by simp [Tryz.f33]) ?_
  have H:=Hp.refl m []
  simp (disch:=omega) only [go_sem,undef]
  repeat' (first
    | (refine new_H H fun _ _ _ _ H => ?_; simp (disch:=omega) only [go_sem,undef,H.hs, *])
    | (refine gQ_split (fun hq => ?_) (fun hq => ?_) <;> (try simp only [Bool.not_true,Bool.not_false] at hq) <;> simp (disch:=omega) only [go_sem,undef,H.hs, *])
    | (refine condB_split (fun hq => ?_) (fun hq => ?_) <;> simp (disch:=omega) only [go_sem,undef,H.hs, *])
    | (refine wr0 H fun _ _ H => ?_; simp (disch:=omega) only [go_sem,undef,H.hs, *])
    | (refine wr1 H fun _ _ H => ?_; simp (disch:=omega) only [go_sem,undef,H.hs, *])
    | (refine wr2 H fun _ _ H => ?_; simp (disch:=omega) only [go_sem,undef,H.hs, *])
    | (refine wr3 H fun _ _ H => ?_; simp (disch:=omega) only [go_sem,undef,H.hs, *])
    | (refine stw0 H rfl rfl fun _ _ H => ?_; simp (disch:=omega) only [go_sem,undef,H.hs, *])
    | (refine stw1 H rfl rfl fun _ _ H => ?_; simp (disch:=omega) only [go_sem,undef,H.hs, *]))
  all_goals (try simp only [decide_eq_true_eq,decide_eq_false_iff_not] at *)
  all_goals exact ⟨by first | rfl | (simp only [Value.bool.injEq,decide_eq_true_eq,eq_comm (a:=true),eq_comm (a:=false),decide_eq_false_iff_not,decide_eq_decide]; grind []),H.fr⟩
theorem cmd_bare_s (c:Cmd) (m:Mem):MC Tryz.prog n_cmd_bare [c.v] m fun v m' => v = c.bare.v ∧ Fr m m' []:=by
  refine Q41go (by simp [Tryz.f33]) ?_
  have H:=Hp.refl m []
  simp (disch:=omega) only [go_sem,undef]
  repeat' (first
    | (refine new_H H fun _ _ _ _ H => ?_; simp (disch:=omega) only [go_sem,undef,H.hs, *])
    | (refine gQ_split (fun hq => ?_) (fun hq => ?_) <;> (try simp only [Bool.not_true,Bool.not_false] at hq) <;> simp (disch:=omega) only [go_sem,undef,H.hs, *])
    | (refine condB_split (fun hq => ?_) (fun hq => ?_) <;> simp (disch:=omega) only [go_sem,undef,H.hs, *])
    | (refine wr0 H fun _ _ H => ?_; simp (disch:=omega) only [go_sem,undef,H.hs, *])
    | (refine wr1 H fun _ _ H => ?_; simp (disch:=omega) only [go_sem,undef,H.hs, *])
    | (refine wr2 H fun _ _ H => ?_; simp (disch:=omega) only [go_sem,undef,H.hs, *])
    | (refine wr3 H fun _ _ H => ?_; simp (disch:=omega) only [go_sem,undef,H.hs, *])
    | (refine stw0 H rfl rfl fun _ _ H => ?_; simp (disch:=omega) only [go_sem,undef,H.hs, *])
    | (refine stw1 H rfl rfl fun _ _ H => ?_; simp (disch:=omega) only [go_sem,undef,H.hs, *]))
  all_goals (simp only [decide_eq_true_eq,decide_eq_false_iff_not] at *)
  all_goals exact ⟨by simp [Cmd.bare, *],H.fr⟩
theorem cmd_Right_s (c:Cmd) (m:Mem):MC Tryz.prog n_cmd_Right [c.v] m fun v m' => v = .bool (decide c.right) ∧ Fr m m' []:=by
  refine Q18go (by simp [Tryz.f33]) ?_
  have H:=Hp.refl m []
  simp (disch:=omega) only [go_sem,undef]
  repeat' (first
    | (refine new_H H fun _ _ _ _ H => ?_; simp (disch:=omega) only [go_sem,undef,H.hs, *])
    | (refine call_H H (cmd_within_s _ _ _) fun _ _ H => ?_; simp (disch:=omega) only [go_sem,undef,H.hs, *])
    | (refine call_H H (cmd_bare_s _ _) fun _ _ H => ?_; simp (disch:=omega) only [go_sem,undef,H.hs, *])
    | (refine gQ_split (fun hq => ?_) (fun hq => ?_) <;> (try simp only [Bool.not_true,Bool.not_false] at hq) <;> simp (disch:=omega) only [go_sem,undef,H.hs, *])
    | (refine condB_split (fun hq => ?_) (fun hq => ?_) <;> simp (disch:=omega) only [go_sem,undef,H.hs, *])
    | (refine wr0 H fun _ _ H => ?_; simp (disch:=omega) only [go_sem,undef,H.hs, *])
    | (refine wr1 H fun _ _ H => ?_; simp (disch:=omega) only [go_sem,undef,H.hs, *])
    | (refine wr2 H fun _ _ H => ?_; simp (disch:=omega) only [go_sem,undef,H.hs, *])
    | (refine wr3 H fun _ _ H => ?_; simp (disch:=omega) only [go_sem,undef,H.hs, *])
    | (refine stw0 H rfl rfl fun _ _ H => ?_; simp (disch:=omega) only [go_sem,undef,H.hs, *])
    | (refine stw1 H rfl rfl fun _ _ H => ?_; simp (disch:=omega) only [go_sem,undef,H.hs, *]))
  all_goals (try simp only [decide_eq_true_eq,decide_eq_false_iff_not] at *)
  all_goals exact ⟨by first | rfl | (simp only [Value.bool.injEq,decide_eq_true_eq,eq_comm (a:=true),eq_comm (a:=false),decide_eq_false_iff_not,decide_eq_decide]; grind [Cmd.right]),H.fr⟩
theorem deps_Right_s (a:Att) (m:Mem):MC Tryz.prog n_deps_Right [a.v] m fun v m' => v = .bool (decide (rightA a)) ∧ Fr m m' []:=by
  refine Q30go (by simp [Tryz.f33]) ?_
  have H:=Hp.refl m []
  simp (disch:=omega) only [go_sem,undef]
  refine new_H H fun b M hb f H => ?_
  simp (disch:=omega) only [go_sem,undef,H.hs]
  refine loopQ_intro (fun n E m' => ∃ k:Nat,k ≤ 7 ∧ n = 7 - k ∧ E = [(1,.pointer (some ⟨b,0,none⟩)),(6,.agg (dv a.deps).toArray),(7,.int .i64 k)] ∧ (∀ i:Fin 7,i.val < k → 0 ≤ a.deps i ∧ a.deps i ≤ 1073741824) ∧ Hp m m' [] [(b,Obj.cells a.cs.toArray T_api_Attr)]) 7 rfl ⟨0,by omega,rfl,rfl,by simp,H⟩ ?_
  clear H f hb
  rintro n E m' ⟨k,hk,rfl,rfl,hall,H⟩
  simp (disch:=omega) only [go_sem,undef,H.hs]
  refine condB_dec (fun h => ?_) (fun h => ?_)
  · have hk7:k < 7:=by omega
    simp (disch:=omega) only [go_sem,undef,H.hs]
    repeat' (first
      | (refine new_H H fun _ _ _ _ H => ?_; simp (disch:=omega) only [go_sem,undef,H.hs, *])
      | (refine gQ_split (fun hq => ?_) (fun hq => ?_) <;> (try simp only [Bool.not_true,Bool.not_false] at hq) <;> simp (disch:=omega) only [go_sem,undef,H.hs, *])
      | (refine condB_split (fun hq => ?_) (fun hq => ?_) <;> simp (disch:=omega) only [go_sem,undef,H.hs, *])
      | (refine wr0 H fun _ _ H => ?_; simp (disch:=omega) only [go_sem,undef,H.hs, *])
      | (refine wr1 H fun _ _ H => ?_; simp (disch:=omega) only [go_sem,undef,H.hs, *])
      | (refine wr2 H fun _ _ H => ?_; simp (disch:=omega) only [go_sem,undef,H.hs, *])
      | (refine wr3 H fun _ _ H => ?_; simp (disch:=omega) only [go_sem,undef,H.hs, *])
      | (refine stw0 H rfl rfl fun _ _ H => ?_; simp (disch:=omega) only [go_sem,undef,H.hs, *])
      | (refine stw1 H rfl rfl fun _ _ H => ?_; simp (disch:=omega) only [go_sem,undef,H.hs, *]))
    all_goals (try simp only [Dp.g_lt _ hk7] at *)
    · exact ⟨by simp [rightA]; intro h1; simp at hq; exact absurd (h1 ⟨k,hk7⟩) (by omega),H.fr⟩
    · refine handN_intro (7 - (k + 1)) (by omega) ⟨k + 1,by omega,rfl,rfl,fun i hi => ?_,H⟩
      simp only [decide_eq_false_iff_not] at *
      rcases Nat.lt_or_eq_of_le (Nat.le_of_lt_succ hi) with h | h
      · exact hall i h
      · have:i = ⟨k,hk7⟩:=Fin.ext h
        subst this; omega
    · exact ⟨by simp [rightA]; intro h1; simp at hq; exact absurd (h1 ⟨k,hk7⟩) (by omega),H.fr⟩
  · simp (disch:=omega) only [go_sem,undef,H.hs]
    repeat' (first
      | (refine new_H H fun _ _ _ _ H => ?_; simp (disch:=omega) only [go_sem,undef,H.hs, *])
      | (refine gQ_split (fun hq => ?_) (fun hq => ?_) <;> (try simp only [Bool.not_true,Bool.not_false] at hq) <;> simp (disch:=omega) only [go_sem,undef,H.hs, *])
      | (refine condB_split (fun hq => ?_) (fun hq => ?_) <;> simp (disch:=omega) only [go_sem,undef,H.hs, *])
      | (refine wr0 H fun _ _ H => ?_; simp (disch:=omega) only [go_sem,undef,H.hs, *])
      | (refine wr1 H fun _ _ H => ?_; simp (disch:=omega) only [go_sem,undef,H.hs, *])
      | (refine wr2 H fun _ _ H => ?_; simp (disch:=omega) only [go_sem,undef,H.hs, *])
      | (refine wr3 H fun _ _ H => ?_; simp (disch:=omega) only [go_sem,undef,H.hs, *])
      | (refine stw0 H rfl rfl fun _ _ H => ?_; simp (disch:=omega) only [go_sem,undef,H.hs, *])
      | (refine stw1 H rfl rfl fun _ _ H => ?_; simp (disch:=omega) only [go_sem,undef,H.hs, *]))
    all_goals (try simp only [decide_eq_true_eq,decide_eq_false_iff_not] at *)
    all_goals exact ⟨by first | rfl | (simp only [Value.bool.injEq,decide_eq_true_eq,eq_comm (a:=true),eq_comm (a:=false),decide_eq_false_iff_not,decide_eq_decide]; grind []),H.fr⟩
end Go.Fw
namespace Go.Fw
open Go.Proofs
theorem letter_RightCell_s (c:Cel) (m:Mem):MC Tryz.prog n_letter_RightCell [c.v] m fun v m' => v = .bool (decide c.right) ∧ Fr m m' []:=by
  refine Q72go (by simp [Tryz.f33]) ?_
  have H:=Hp.refl m []
  simp (disch:=omega) only [go_sem,undef]
  repeat' (first
    | (refine new_H H fun _ _ _ _ H => ?_; simp (disch:=omega) only [go_sem,undef,H.hs, *])
    | (refine call_H H (inst_RightBallot_s _ _) fun _ _ H => ?_; simp (disch:=omega) only [go_sem,undef,H.hs, *])
    | (refine call_H H (inst_Below_s _ _ _) fun _ _ H => ?_; simp (disch:=omega) only [go_sem,undef,H.hs, *])
    | (refine call_H H (cmd_Right_s _ _) fun _ _ H => ?_; simp (disch:=omega) only [go_sem,undef,H.hs, *])
    | (refine call_H H (deps_Right_s _ _) fun _ _ H => ?_; simp (disch:=omega) only [go_sem,undef,H.hs, *])
    | (refine gQ_split (fun hq => ?_) (fun hq => ?_) <;> (try simp only [Bool.not_true,Bool.not_false] at hq) <;> simp (disch:=omega) only [go_sem,undef,H.hs, *])
    | (refine condB_split (fun hq => ?_) (fun hq => ?_) <;> simp (disch:=omega) only [go_sem,undef,H.hs, *])
    | (refine wr0 H fun _ _ H => ?_; simp (disch:=omega) only [go_sem,undef,H.hs, *])
    | (refine wr1 H fun _ _ H => ?_; simp (disch:=omega) only [go_sem,undef,H.hs, *])
    | (refine wr2 H fun _ _ H => ?_; simp (disch:=omega) only [go_sem,undef,H.hs, *])
    | (refine wr3 H fun _ _ H => ?_; simp (disch:=omega) only [go_sem,undef,H.hs, *])
    | (refine stw0 H rfl rfl fun _ _ H => ?_; simp (disch:=omega) only [go_sem,undef,H.hs, *])
    | (refine stw1 H rfl rfl fun _ _ H => ?_; simp (disch:=omega) only [go_sem,undef,H.hs, *]))
  all_goals (try simp only [decide_eq_true_eq,decide_eq_false_iff_not] at *)
  all_goals exact ⟨by first | rfl | (simp only [Value.bool.injEq,decide_eq_true_eq,eq_comm (a:=true),eq_comm (a:=false),decide_eq_false_iff_not,decide_eq_decide]; grind [Cel.right]),H.fr⟩
end Go.Fw
namespace Go.Fw
open Go.Proofs
theorem pv_enc:KeyEnc true [.i .i64,.i .i64] pv where
  fit x:=rfl
  eq x y:=pc_eq x y
abbrev LogL:=List ((Int × Int) × Cel)
def cv (l:LogL):List ((Int × Int) × Value):=l.map fun p => (p.1,p.2.v)
def lkC (k:Int × Int):LogL → Option Cel
  | [] => none
  | (a,c) :: r => if a = k then some c else lkC k r
def keysC (l:LogL):List (Int × Int):=l.map (·.1)
def upC (k:Int × Int) (c:Cel) (l:LogL):LogL:=if k ∈ keysC l then l.map (fun p => if p.1 = k then (k,c) else p) else l ++ [(k,c)]
theorem keys_cv (l:LogL):keysOf (cv l) = keysC l:=by simp [keysOf,cv,keysC,List.map_map,Function.comp_def]
theorem upd_cv (k:Int × Int) (c:Cel) (l:LogL):updM k c.v (cv l) = cv (upC k c l):=by
  unfold updM upC
  rw [keys_cv]
  split
  · simp only [cv,List.map_map]
    refine List.map_congr_left fun p _ => ?_
    simp only [Function.comp]
    split <;> rfl
  · simp [cv]
theorem del_cv (k:Int × Int) (l:LogL):delM k (cv l) = cv (l.filter fun p => p.1 ≠ k):=by
  unfold delM cv
  rw [List.filter_map]; rfl
theorem lkC_none {k:Int × Int}:∀ {l:LogL},lkC k l = none ↔ k ∉ keysC l
  | [] => by simp [lkC,keysC]
  | (a,c) :: r => by
    have:=lkC_none (k:=k) (l:=r)
    simp only [lkC,keysC,List.map_cons,List.mem_cons,not_or] at this ⊢
    split
    · rename_i e; subst e; simp
    · rename_i e; rw [this]; exact ⟨fun h => ⟨fun e' => e e'.symm,h⟩,fun h => h.2⟩
theorem lkC_mem {k:Int × Int} {c:Cel}:∀ {l:LogL},lkC k l = some c → (k,c) ∈ l
  | (a,d) :: r,h => by
    simp only [lkC] at h
    split at h
    · rename_i e; subst e; cases h; exact List.mem_cons_self ..
    · exact List.mem_cons_of_mem _ (lkC_mem h)
theorem lkC_of {k:Int × Int} {c:Cel}:∀ {l:LogL},(keysC l).Nodup → (k,c) ∈ l → lkC k l = some c
  | (a,d) :: r,hn,h => by
    simp only [keysC,List.map_cons,List.nodup_cons] at hn
    simp only [lkC]
    rcases List.mem_cons.1 h with e | h
    · cases e; simp
    · rw [if_neg]
      · exact lkC_of hn.2 h
      · rintro rfl; exact hn.1 (List.mem_map.2 ⟨_,h,rfl⟩)
theorem look_cv (k:Int × Int) (l:LogL) (hn:(keysC l).Nodup):look k (cv l) = (lkC k l).map Cel.v:=by
  cases h:look k (cv l) with
  | none =>
    rw [look_none,keys_cv] at h
    rw [lkC_none.2 h]; rfl
  | some v =>
    have h1:=look_some h
    obtain ⟨p,hp,e⟩:=List.mem_map.1 h1
    simp only [Prod.mk.injEq] at e
    rw [lkC_of (c:=p.2) hn (by rw [← e.1]; exact hp),← e.2]; rfl
/-- a log: its struct at lb, its map at r -/
structure LogIs (m:Mem) (lb r:Nat) (cut:Dp) (l:LogL):Prop where
  box:m lb = some (.cells (Value.map (some r) :: dv cut).toArray T_log_Log (0,0))
  map:MapIs pv m r (cv l)
theorem LogIs.nd {m:Mem} {lb r:Nat} {cut:Dp} {l:LogL} (h:LogIs m lb r cut l):(keysC l).Nodup:=by
  have:=h.map.nd; rwa [keys_cv] at this
theorem LogIs.frame {m m':Mem} {lb r:Nat} {cut:Dp} {l:LogL} {S:List Nat} (h:LogIs m lb r cut l) (f:Fr m m' S) (h1:lb ∉ S) (h2:r ∉ S):LogIs m' lb r cut l:=⟨f.get h.box h1,h.map.frame f h2⟩
theorem LogIs.frame0 {m m':Mem} {lb r:Nat} {cut:Dp} {l:LogL} (h:LogIs m lb r cut l) (f:Fr m m' []):LogIs m' lb r cut l:=h.frame f (by simp) (by simp)
theorem LogIs.ne {m:Mem} {lb r:Nat} {cut:Dp} {l:LogL} (h:LogIs m lb r cut l):lb ≠ r:=by
  obtain ⟨es,c,hm,_⟩:=h.map
  rintro rfl
  rw [h.box] at hm; cases hm
abbrev lp (lb:Nat):Value:=.pointer (some ⟨lb,0,none⟩)
theorem rd_lkpC {m:Mem} {r:Nat} {l:LogL} (h:MapIs pv m r (cv l)) (k:Int × Int) :
    rd (.lkp true [.i .i64,.i .i64] Cel.zero.v true) [.map (some r),pv k] m = some (.tuple #[((lkC k l).getD Cel.zero).v,.bool (lkC k l).isSome]):=by
  rw [rd_lkp pv_enc h k]
  have hn:(keysC l).Nodup:=by have:=h.nd; rwa [keys_cv] at this
  rw [look_cv k l hn]
  cases lkC k l <;> rfl
theorem log_Cell_s {m:Mem} {lb r:Nat} {cut:Dp} {l:LogL} (h:LogIs m lb r cut l) (k:Int × Int) :
    MC Tryz.prog n_log_Log_Cell [lp lb,pv k] m fun v m' => v = .tuple #[((lkC k l).getD Cel.zero).v,.bool (lkC k l).isSome] ∧ Fr m m' []:=by
  refine Q33go (by simp [Tryz.f33]) ?_
  have H:=Hp.refl m []
  simp (disch:=omega) only [go_sem,undef]
  repeat' (first
    | (refine new_H H fun _ _ _ _ H => ?_; simp (disch:=omega) only [go_sem,undef,H.hs, *,H.fr.get0 h.box,rd_lkpC (h.map.frame H.fr (by simp)) k])
    | (refine gQ_split (fun hq => ?_) (fun hq => ?_) <;> (try simp only [Bool.not_true,Bool.not_false] at hq) <;> simp (disch:=omega) only [go_sem,undef,H.hs, *,H.fr.get0 h.box,rd_lkpC (h.map.frame H.fr (by simp)) k])
    | (refine condB_split (fun hq => ?_) (fun hq => ?_) <;> simp (disch:=omega) only [go_sem,undef,H.hs, *,H.fr.get0 h.box,rd_lkpC (h.map.frame H.fr (by simp)) k])
    | (refine wr0 H fun _ _ H => ?_; simp (disch:=omega) only [go_sem,undef,H.hs, *,H.fr.get0 h.box,rd_lkpC (h.map.frame H.fr (by simp)) k])
    | (refine wr1 H fun _ _ H => ?_; simp (disch:=omega) only [go_sem,undef,H.hs, *,H.fr.get0 h.box,rd_lkpC (h.map.frame H.fr (by simp)) k])
    | (refine wr2 H fun _ _ H => ?_; simp (disch:=omega) only [go_sem,undef,H.hs, *,H.fr.get0 h.box,rd_lkpC (h.map.frame H.fr (by simp)) k])
    | (refine wr3 H fun _ _ H => ?_; simp (disch:=omega) only [go_sem,undef,H.hs, *,H.fr.get0 h.box,rd_lkpC (h.map.frame H.fr (by simp)) k])
    | (refine stw0 H rfl rfl fun _ _ H => ?_; simp (disch:=omega) only [go_sem,undef,H.hs, *,H.fr.get0 h.box,rd_lkpC (h.map.frame H.fr (by simp)) k])
    | (refine stw1 H rfl rfl fun _ _ H => ?_; simp (disch:=omega) only [go_sem,undef,H.hs, *,H.fr.get0 h.box,rd_lkpC (h.map.frame H.fr (by simp)) k]))
  all_goals exact ⟨by cases hl:lkC k l <;> simp_all,H.fr⟩
theorem log_Gone_s {m:Mem} {lb r:Nat} {cut:Dp} {l:LogL} (h:LogIs m lb r cut l) (k:Int × Int) :
    MC Tryz.prog n_log_Log_Gone [lp lb,pv k] m fun v m' => v = .bool (decide (rightI k ∧ k.2 ≤ cut.g k.1.toNat)) ∧ Fr m m' []:=by
  refine Q44go (by simp [Tryz.f33]) ?_
  have H:=Hp.refl m []
  simp (disch:=omega) only [go_sem,undef]
  refine new_H H fun b M hb f H => ?_
  simp (disch:=omega) only [go_sem,undef,H.hs]
  refine call_H H (inst_Right_s k M) fun M f H => ?_
  by_cases hr:rightI k
  · obtain ⟨h1,h2,h3,h4⟩:=hr
    simp (disch:=omega) only [go_sem,undef,H.hs,H.fr.get0 h.box,dec_t (show rightI k from ⟨h1,h2,h3,h4⟩)]
    exact ⟨by simp [h1,h2,h3,h4,rightI],H.fr⟩
  · simp (disch:=omega) only [go_sem,undef,H.hs,H.fr.get0 h.box,dec_f hr]
    exact ⟨by simp [hr],H.fr⟩
def mayC (was c:Cel):Prop:=¬ (was.st = 3 ∧ (c.st ≠ 3 ∨ c.cmd ≠ was.cmd ∨ c.att ≠ was.att)) ∧ ¬ lt2 c.pr was.pr ∧ ¬ lt2 c.vo was.vo ∧ (was.st ≤ c.st ∨ c.vo ≠ was.vo)
instance (w c:Cel):Decidable (mayC w c):=by unfold mayC; exact inferInstance
def oldOk (c:Cel):Option Cel → Prop
  | none => True
  | some w => mayC w c
instance (c:Cel) (o:Option Cel):Decidable (oldOk c o):=by cases o <;> unfold oldOk <;> exact inferInstance
theorem log_may_s (w c:Cel) (m:Mem):MC Tryz.prog n_log_may [w.v,c.v] m fun v m' => v = .bool (decide (mayC w c)) ∧ Fr m m' []:=by
  refine Q87go (by simp [Tryz.f33]) ?_
  have H:=Hp.refl m []
  simp (disch:=omega) only [go_sem,undef]
  repeat' (first
    | (refine new_H H fun _ _ _ _ H => ?_; simp (disch:=omega) only [go_sem,undef,H.hs, *])
    | (refine call_H H (inst_Below_s _ _ _) fun _ _ H => ?_; simp (disch:=omega) only [go_sem,undef,H.hs, *])
    | (refine gQ_split (fun hq => ?_) (fun hq => ?_) <;> (try simp only [Bool.not_true,Bool.not_false] at hq) <;> simp (disch:=omega) only [go_sem,undef,H.hs, *])
    | (refine condB_split (fun hq => ?_) (fun hq => ?_) <;> simp (disch:=omega) only [go_sem,undef,H.hs, *])
    | (refine wr0 H fun _ _ H => ?_; simp (disch:=omega) only [go_sem,undef,H.hs, *])
    | (refine wr1 H fun _ _ H => ?_; simp (disch:=omega) only [go_sem,undef,H.hs, *])
    | (refine wr2 H fun _ _ H => ?_; simp (disch:=omega) only [go_sem,undef,H.hs, *])
    | (refine wr3 H fun _ _ H => ?_; simp (disch:=omega) only [go_sem,undef,H.hs, *])
    | (refine stw0 H rfl rfl fun _ _ H => ?_; simp (disch:=omega) only [go_sem,undef,H.hs, *])
    | (refine stw1 H rfl rfl fun _ _ H => ?_; simp (disch:=omega) only [go_sem,undef,H.hs, *]))
  all_goals (try simp only [decide_eq_true_eq,decide_eq_false_iff_not] at *)
  all_goals exact ⟨by first | rfl | (simp only [Value.bool.injEq,decide_eq_true_eq,eq_comm (a:=true),eq_comm (a:=false),decide_eq_false_iff_not,decide_eq_decide]; grind [mayC]),H.fr⟩
def mayS (cut:Dp) (l:LogL) (k:Int × Int) (c:Cel):Prop:=rightI k ∧ ¬ k.2 ≤ cut.g k.1.toNat ∧ c.right ∧ oldOk c (lkC k l)
instance (cut:Dp) (l:LogL) (k:Int × Int) (c:Cel):Decidable (mayS cut l k c):=by unfold mayS; exact inferInstance
theorem log_Set_s {m:Mem} {lb r:Nat} {cut:Dp} {l:LogL} (h:LogIs m lb r cut l) (k:Int × Int) (c:Cel) :
    MC Tryz.prog n_log_Log_Set [lp lb,pv k,c.v] m fun v m' => (v = .bool (decide (mayS cut l k c)) ∧ LogIs m' lb r cut (if mayS cut l k c then upC k c l else l)) ∧ Fr m m' [r]:=by
  have hne:=h.ne
  have hx:∀ s ∈ [r],m s ≠ none:=fun s hs => by simp at hs; subst hs; exact h.map.there
  refine Q55go (by simp [Tryz.f33]) ?_
  have H:=Hp.refl m []
  simp (disch:=omega) only [go_sem,undef]
  repeat' (first
    | (refine new_H H fun _ _ _ _ H => ?_; simp (disch:=omega) only [go_sem,undef,H.hs, *,H.fr.get0 h.box,rd_lkpC (h.map.frame H.fr (by simp)) k])
    | (refine call_H H (inst_Right_s _ _) fun _ _ H => ?_; simp (disch:=omega) only [go_sem,undef,H.hs, *,H.fr.get0 h.box,rd_lkpC (h.map.frame H.fr (by simp)) k])
    | (refine call_H H (log_Gone_s (h.frame0 H.fr) _) fun _ _ H => ?_; simp (disch:=omega) only [go_sem,undef,H.hs, *,H.fr.get0 h.box,rd_lkpC (h.map.frame H.fr (by simp)) k])
    | (refine call_H H (letter_RightCell_s _ _) fun _ _ H => ?_; simp (disch:=omega) only [go_sem,undef,H.hs, *,H.fr.get0 h.box,rd_lkpC (h.map.frame H.fr (by simp)) k])
    | (refine call_H H (log_may_s _ _ _) fun _ _ H => ?_; simp (disch:=omega) only [go_sem,undef,H.hs, *,H.fr.get0 h.box,rd_lkpC (h.map.frame H.fr (by simp)) k])
    | (refine gQ_split (fun hq => ?_) (fun hq => ?_) <;> (try simp only [Bool.not_true,Bool.not_false] at hq) <;> simp (disch:=omega) only [go_sem,undef,H.hs, *,H.fr.get0 h.box,rd_lkpC (h.map.frame H.fr (by simp)) k])
    | (refine condB_split (fun hq => ?_) (fun hq => ?_) <;> simp (disch:=omega) only [go_sem,undef,H.hs, *,H.fr.get0 h.box,rd_lkpC (h.map.frame H.fr (by simp)) k])
    | (refine wr0 H fun _ _ H => ?_; simp (disch:=omega) only [go_sem,undef,H.hs, *,H.fr.get0 h.box,rd_lkpC (h.map.frame H.fr (by simp)) k])
    | (refine wr1 H fun _ _ H => ?_; simp (disch:=omega) only [go_sem,undef,H.hs, *,H.fr.get0 h.box,rd_lkpC (h.map.frame H.fr (by simp)) k])
    | (refine wr2 H fun _ _ H => ?_; simp (disch:=omega) only [go_sem,undef,H.hs, *,H.fr.get0 h.box,rd_lkpC (h.map.frame H.fr (by simp)) k])
    | (refine wr3 H fun _ _ H => ?_; simp (disch:=omega) only [go_sem,undef,H.hs, *,H.fr.get0 h.box,rd_lkpC (h.map.frame H.fr (by simp)) k])
    | (refine stw0 H rfl rfl fun _ _ H => ?_; simp (disch:=omega) only [go_sem,undef,H.hs, *,H.fr.get0 h.box,rd_lkpC (h.map.frame H.fr (by simp)) k])
    | (refine stw1 H rfl rfl fun _ _ H => ?_; simp (disch:=omega) only [go_sem,undef,H.hs, *,H.fr.get0 h.box,rd_lkpC (h.map.frame H.fr (by simp)) k]))
  all_goals (try simp only [decide_eq_true_eq,decide_eq_false_iff_not] at *)
  all_goals first
    | (have hm:mayS cut l k c:=by
         clear H
         cases hl:lkC k l <;> grind [mayS,oldOk]
       refine mup_own (k:=k) pv_enc (h.map.frame H.fr (by simp)) fun N hN f _ => ?_
       simp (disch:=omega) only [go_sem]
       rw [upd_cv] at hN
       refine ⟨⟨by rw [decide_eq_true hm], ?_⟩,(H.fr.sub (by simp)).transS f⟩
       rw [if_pos hm]
       exact ⟨f.get (H.fr.get0 h.box) (by simpa using hne),hN⟩)
    | (have hm:¬ mayS cut l k c:=by
         clear H
         cases hl:lkC k l <;> grind [mayS,oldOk]
       refine ⟨⟨by rw [decide_eq_false hm], ?_⟩,H.fr.sub (by simp)⟩
       rw [if_neg hm]
       exact h.frame0 H.fr)
end Go.Fw
namespace Go.Fw
open Go.Proofs
def trimD (cut upto:Dp):Dp:=fun i => max (cut i) (min (max (upto i) 0) 1073741824)
abbrev goneD (cut:Dp) (k:Int × Int):Prop:=rightI k ∧ k.2 ≤ cut.g k.1.toNat
theorem trimD_g (cut upto:Dp) (k:Nat) (h:k < 7):(trimD cut upto).g k = max (cut.g k) (min (max (upto.g k) 0) 1073741824):=by simp [Dp.g,h,trimD]
theorem log_Trim_s {m:Mem} {lb r:Nat} {cut:Dp} {l:LogL} (h:LogIs m lb r cut l) (upto:Dp) :
    MC Tryz.prog n_log_Log_Trim [lp lb,upto.v] m fun v m' => (v = .tuple #[] ∧ LogIs m' lb r (trimD cut upto) (l.filter fun p => ¬ goneD (trimD cut upto) p.1)) ∧ Fr m m' [lb,r]:=by
  have hne:=h.ne
  have hx:∀ s ∈ [lb,r],m s ≠ none:=fun s hs => by
    simp at hs; rcases hs with rfl | rfl
    · rw [h.box]; exact Option.some_ne_none _
    · exact h.map.there
  refine Q82go (by simp [Tryz.f33]) ?_
  have H:=Hp.refl m [lb,r] hx
  simp (disch:=omega) only [go_sem,undef]
  refine new_H H fun b M hb f H => ?_
  have hL:=h.frame0 f
  simp (disch:=omega) only [go_sem,undef,H.hs]
  refine loopQ_intro (fun n E m' => ∃ (k:Nat) (c:Dp),k ≤ 7 ∧ n = 7 - k ∧ E = [(0,lp lb),(7,upto.v),(8,.int .i64 k)] ∧ (∀ j,j < k → c.g j = (trimD cut upto).g j) ∧ (∀ j,k ≤ j → c.g j = cut.g j) ∧ LogIs m' lb r c l ∧ Fr m m' [lb,r]) 7 rfl ⟨0,cut,by omega,rfl,rfl,by simp,by simp,hL,H.fr⟩ ?_
  clear H hL f hb
  rintro n E m' ⟨k,c,hk,rfl,rfl,h1,h2,hL,f⟩
  simp (disch:=omega) only [go_sem,undef]
  refine condB_dec (fun h => ?_) (fun h => ?_)
  · have hk7:k < 7:=by omega
    have H:=Hp.refl m' [lb] (by simp [hL.box])
    simp (disch:=omega) only [go_sem,undef,hL.box]
    refine wrS H (by simp) fun M hM f' H => ?_
    simp (disch:=omega) only [go_sem,undef]
    refine handN_intro (7 - (k + 1)) (by omega) ⟨k + 1,_,by omega,rfl,rfl,fun j hj => ?_,fun j hj => ?_,⟨hM,hL.map.frame f' (by simpa using hne.symm)⟩,f.trans f' (by simp)⟩
    · rw [Dp.up_g]
      by_cases e:j = k
      · subst e; simp [hk7,trimD_g,h2 j (Nat.le_refl _)]
      · rw [if_neg (fun h => e h.1)]; exact h1 j (by omega)
    · rw [Dp.up_g,if_neg (by omega)]; exact h2 j (by omega)
  · have hc:c = trimD cut upto:=Dp.ext_g fun j hj => h1 j (by omega)
    subst hc
    clear h1 h2
    simp (disch:=omega) only [go_sem,undef,hL.box]
    refine rng_own hL.map fun it N hit hI f1 => ?_
    have hbox:=f1.get0 hL.box
    have f2:=f.trans0 f1
    have hitm:m it = none:=by
      cases hm:m it with
      | none => rfl
      | some o => exact absurd hit (f.some (by rw [hm]; exact Option.some_ne_none _) (by
          intro hs; simp at hs
          rcases hs with rfl | rfl
          · rw [hL.box] at hit; cases hit
          · exact hL.map.there hit))
    have hitl:it ≠ lb:=by rintro rfl; rw [hL.box] at hit; cases hit
    have hitr:it ≠ r:=by rintro rfl; exact hL.map.there hit
    clear f f1 hL hit
    simp (disch:=omega) only [go_sem,undef]
    generalize hcut:trimD cut upto = ct at *
    refine loopQ_intro (fun n E m' => ∃ (l':LogL) (done D:List (Int × Int)),n = l'.length - done.length ∧ E = [(0,lp lb),(32,.pointer (some ⟨it,0,none⟩))] ∧ IterIs pv m' it r (cv l') done ∧ m' lb = some (.cells (Value.map (some r) :: dv ct).toArray T_log_Log (0,0)) ∧
      l' = l.filter (fun p => p.1 ∉ D) ∧ (∀ x ∈ D,goneD ct x) ∧ (∀ x ∈ done,¬ goneD ct x) ∧ Fr m m' [lb,r]) l.length rfl ⟨l,[],[],by simp,rfl,hI,hbox,(List.filter_eq_self.2 (by simp)).symm,by simp,by simp,f2⟩ ?_
    clear hI hbox f2
    rintro n E m' ⟨l',done,D,rfl,rfl,hI,hbox,hl',hD,hdone,f⟩
    have hle:done.length ≤ l'.length:=by
      obtain ⟨es,c,seen,_,hh,_,hd,hsub,_⟩:=hI
      rw [keys_cv] at hsub
      have:=hd.length_le_of_subset hsub
      simpa [keysC] using this
    simp (disch:=omega) only [go_sem,undef]
    refine nxt_own pv_enc hI (fun hperm => ?_) (fun k w N hkw hk hI2 hent f1 hnone => ?_)
    · simp (disch:=omega) only [go_sem,undef]
      refine ⟨⟨rfl,hbox, ?_⟩,f⟩
      rw [keys_cv] at hperm
      have:l.filter (fun p => ¬ goneD ct p.1) = l':=by
        rw [hl']
        refine List.filter_congr fun p hp => ?_
        by_cases hx:p.1 ∈ D
        · rw [decide_eq_false (fun hn => hn (hD _ hx)),decide_eq_false (fun hn => hn hx)]
        · have hin:p.1 ∈ keysC l':=by rw [hl']; exact List.mem_map.2 ⟨p,List.mem_filter.2 ⟨hp,by simpa using hx⟩,rfl⟩
          have:=hdone _ (hperm.mem_iff.1 hin)
          rw [decide_eq_true this,decide_eq_true hx]
      rw [this]
      exact hI.map
    · have hI2l:(done ++ [k]).length ≤ l'.length:=by
        obtain ⟨es,c,seen,_,hh,_,hd,hsub,_⟩:=hI2
        rw [keys_cv] at hsub
        have:=hd.length_le_of_subset hsub
        simpa [keysC] using this
      simp only [List.length_append,List.length_cons,List.length_nil] at hI2l
      have hboxN:=f1.get hbox (by simpa using hitl.symm)
      have H:=Hp.refl N []
      simp (disch:=omega) only [go_sem,undef,hent]
      refine new_H H fun b M hb f2 H => ?_
      simp (disch:=omega) only [go_sem,undef,H.hs]
      refine stw0 H rfl rfl fun M f3 H => ?_
      simp (disch:=omega) only [go_sem,undef,H.hs]
      have hI3:=hI2.frame H.fr (by simp) (by simp)
      refine call_H H (log_Gone_s ⟨H.fr.get0 hboxN,hI3.map⟩ k) fun M f4 H => ?_
      have hI4:=hI2.frame H.fr (by simp) (by simp)
      have fall:=f1.trans0 H.fr
      by_cases hg:goneD ct k
      · simp (disch:=omega) only [go_sem,undef,H.hs,dec_t hg,H.fr.get0 hboxN]
        refine dlt_iter (k:=k) pv_enc hI4 fun M2 hI5 f5 _ => ?_
        rw [del_cv] at hI5
        have hdn:(done ++ [k]).filter (· ≠ k) = done:=by
          rw [List.filter_append]
          simp only [ne_eq,decide_not,List.filter_cons,decide_true,Bool.not_true,Bool.false_eq_true,if_false,List.filter_nil,List.append_nil]
          refine List.filter_eq_self.2 fun x hx => ?_
          simp only [Bool.not_eq_true',decide_eq_false_iff_not]
          rintro rfl; exact hk hx
        rw [hdn] at hI5
        have hlen:(l'.filter fun p => p.1 ≠ k).length < l'.length:=by
          obtain ⟨p,hp,e⟩:=List.mem_map.1 hkw
          exact List.length_filter_lt_length_iff_exists.2 ⟨p,hp,by simp only [Prod.mk.injEq] at e; simp [e.1]⟩
        have hle2:done.length ≤ (l'.filter fun p => p.1 ≠ k).length:=by
          obtain ⟨es,c,seen,_,hh,_,hd,hsub,_⟩:=hI5
          rw [keys_cv] at hsub
          have:=hd.length_le_of_subset hsub
          simpa [keysC] using this
        simp (disch:=omega) only [go_sem,undef]
        refine handN_intro ((l'.filter fun p => p.1 ≠ k).length - done.length) (by omega) ⟨_,done,k :: D,rfl,rfl,hI5,f5.get (H.fr.get0 hboxN) (by simpa using hne), ?_, ?_,hdone, ?_⟩
        · rw [hl',List.filter_filter]
          refine List.filter_congr fun p _ => ?_
          simp
        · intro x hx
          rcases List.mem_cons.1 hx with rfl | hx
          · exact hg
          · exact hD x hx
        · exact (f.trans ((fall.sub (T:=[it,r]) (by simp)).trans f5 (by simp)) (fun x hx hx0 => by
            simp at hx; rcases hx with rfl | rfl
            · exact absurd hitm hx0
            · simp))
      · simp (disch:=omega) only [go_sem,undef,H.hs,dec_f hg]
        refine handN_intro (l'.length - (done.length + 1)) (by omega) ⟨l',done ++ [k],D,by simp,rfl,hI4,H.fr.get0 hboxN,hl',hD, ?_, ?_⟩
        · intro x hx
          rcases List.mem_append.1 hx with hx | hx
          · exact hdone x hx
          · simp only [List.mem_singleton] at hx; subst hx; exact hg
        · exact f.trans fall (fun x hx hx0 => by simp at hx; subst hx; exact absurd hitm hx0)
end Go.Fw
/-! slices.SortFunc over elements of k cells: the library's contract, told of abstract memory. -/
namespace Go.Fw
open Go Go.Proofs Go.Shelf Go.Sort
variable {α:Type} [Inhabited α]
end Go.Fw
namespace Go.Fw
open Go.Proofs Go.Shelf Go.Sort
/-! the nil row -/
end Go.Fw
namespace Go.Fw
open Go.Proofs Go.Shelf Go.Sort
def topD (cut:Dp) (l:List (Int × Int)):Dp:=l.foldl (fun d k => Dp.up d k.1.toNat (max (d.g k.1.toNat) k.2)) cut
theorem log_Top_s {m:Mem} {lb r:Nat} {cut:Dp} {l:LogL} (h:LogIs m lb r cut l) (hr:∀ k ∈ keysC l,rightI k) :
    MC Tryz.prog n_log_Log_Top [lp lb] m fun v m' => (∃ l',l'.Perm (keysC l) ∧ v = (topD cut l').v) ∧ Fr m m' []:=by
  have hnd:=h.nd
  refine Q28go (by simp [Tryz.f33]) ?_
  have H:=Hp.refl m []
  simp (disch:=omega) only [go_sem,undef]
  refine new_H H fun b2 M _ _ H => ?_
  simp (disch:=omega) only [go_sem,undef,H.hs,H.fr.get0 h.box]
  refine new_H H fun b3 M _ _ H => ?_
  simp (disch:=omega) only [go_sem,undef,H.hs]
  refine stw0 H rfl rfl fun M _ H => ?_
  simp (disch:=omega) only [go_sem,undef,H.hs,H.fr.get0 h.box]
  refine rng_H H (h.map.frame H.fr (by simp)) fun it N hit hI f1 H hit0 hitS hitr => ?_
  simp (disch:=omega) only [go_sem,undef]
  refine loopQ_intro (fun n E m' => ∃ (done:List (Int × Int)),n = l.length - done.length ∧ E = [(2,.pointer (some ⟨b2,0,none⟩)),(3,.pointer (some ⟨b3,0,none⟩)),(13,.pointer (some ⟨it,0,none⟩))] ∧ IterIs pv m' it r (cv l) done ∧
    Hp m m' [it] [(b3,.cells (dv (topD cut done)).toArray T_api_Deps),(b2,.cells (dv Dp.zero).toArray T_api_Deps)]) l.length rfl ⟨[],rfl,rfl,hI,H⟩ ?_
  clear H hI f1 hit
  rintro n E m' ⟨done,rfl,rfl,hI,H⟩
  simp (disch:=omega) only [go_sem,undef]
  refine nxt_H pv_enc hI H (by simp) (fun hperm => ?_) (fun k w N hkw hk hle hI2 hent f2 H => ?_)
  · rw [keys_cv] at hperm
    simp (disch:=omega) only [go_sem,undef,H.hs]
    refine stw1 H rfl rfl fun M _ H => ?_
    simp (disch:=omega) only [go_sem,undef,H.hs]
    exact ⟨⟨done,hperm.symm,rfl⟩,H.fr.less (by simp [hit0])⟩
  · have hkr:rightI k:=hr k (by rw [← keys_cv]; exact List.mem_map.2 ⟨_,hkw,rfl⟩)
    simp only [List.length_append,List.length_cons,List.length_nil,cv,List.length_map] at hle
    obtain ⟨hk1,hk2,_,_⟩:=hkr
    simp (disch:=omega) only [go_sem,undef,hent]
    refine new_H H fun b4 M4 hb4 f3 H => ?_
    simp (disch:=omega) only [go_sem,undef,H.hs]
    refine stw0 H rfl rfl fun M5 f4 H => ?_
    simp (disch:=omega) only [go_sem,undef,H.hs]
    refine wr1 H fun M f5 H => ?_
    simp (disch:=omega) only [go_sem,undef]
    refine handN_intro (l.length - (done.length + 1)) (by omega) ⟨done ++ [k],by simp,rfl, ?_, ?_⟩
    · have g:=((f3.sub (T:=[b4,b3]) (by simp)).trans f4 (by simp)).trans f5 (by simp)
      have h3:=H.nw1
      refine hI2.frame g ?_ ?_
      · simp only [List.mem_cons,List.not_mem_nil,or_false,not_or]
        exact ⟨fun e => hI2.there (e ▸ hb4),fun e => h3.2 (by simp [e])⟩
      · simp only [List.mem_cons,List.not_mem_nil,or_false,not_or]
        exact ⟨fun e => hI2.map.there (e ▸ hb4),fun e => h.map.there (e ▸ h3.1)⟩
    · have e:topD cut (done ++ [k]) = Dp.up (topD cut done) k.1.toNat (max ((topD cut done).g k.1.toNat) k.2):=by simp [topD]
      rw [e]; exact H.drop1
theorem log_New_s (cut:Dp) (m:Mem) :
    MC Tryz.prog n_log_New [cut.v] m fun v m' => (∃ lb r,v = lp lb ∧ LogIs m' lb r (trimD Dp.zero cut) [] ∧ m lb = none ∧ m r = none) ∧ Fr m m' []:=by
  refine Q51go (by simp [Tryz.f33]) ?_
  have H:=Hp.refl m []
  simp (disch:=omega) only [go_sem,undef]
  refine new_H H fun b1 M _ _ H => ?_
  simp (disch:=omega) only [go_sem,undef,H.hs]
  refine new_H H fun r M _ _ H => ?_
  simp (disch:=omega) only [go_sem,undef,H.hs]
  refine new_H H fun lb M _ _ H => ?_
  simp (disch:=omega) only [go_sem,undef,H.hs]
  have hnd:=H.nd
  have hlb:=H.nw0.1
  have hr:=H.nw1.1
  have hL:LogIs M lb r Dp.zero []:=⟨H.hs.1,by
    have h2:=H.hs.2.1
    exact ⟨#[],0,h2,rfl,by simp [keysOf,cv],by simp,by simp⟩⟩
  refine call_with (log_Trim_s hL cut) ?_
  rintro v M2 ⟨⟨rfl,hL2⟩,f2⟩
  simp (disch:=omega) only [go_sem,undef]
  refine ⟨⟨lb,r,rfl,by simpa using hL2,hlb,hr⟩,(H.fr.sub (T:=[lb,r]) (by simp)).transS f2 |>.less (by simp [hlb,hr])⟩
end Go.Fw
