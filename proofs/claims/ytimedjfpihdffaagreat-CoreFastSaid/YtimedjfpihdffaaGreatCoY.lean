import Derived.Test.YtimedjfpihdffaaGreatCoX
import Derived.Test.YtimedjfpihdffaaGreatCdC
import Derived.Test.YtimedjfpihdffaaGreatBa
set_option linter.unusedVariables false
set_option linter.unusedSimpArgs false
namespace Go.Fw
open Go.Proofs
variable {m m0 M:Mem} {S:List Nat} {L:List As}
/-! quorums -/
theorem Sd.sub_vo (a:Sd):(a.cs.drop 4).take 2 = pc a.cel.vo:=rfl
theorem Sd.sub_cmd (a:Sd):(a.cs.drop 6).take 7 = a.cel.cmd.cs:=rfl
theorem Sd.sub_att (a:Sd):(a.cs.drop 13).take 8 = a.cel.att.cs:=rfl
theorem Sd.g21 (a:Sd):a.cs[21]? = some (.bool a.cel.same):=rfl
attribute [go_sem] Sd.sub_vo Sd.sub_cmd Sd.sub_att Sd.g21
theorem fits_s (n:Int) (m:Mem):MC Tryz.prog n_quorum_Fits [.int .i64 n] m fun v m' => v = .bool (decide (n = 3 ∨ n = 5 ∨ n = 7)) ∧ Fr m m' []:=by
  refine Q50go (by simp [Tryz.f33]) ?_
  have H:=Hq.refl m []
  simp (disch:=omega) only [go_sem,undef]
  repeat' (first
    | ((with_reducible refine newQ H fun _ _ f H2 => ?_); clear f; clear H; have H:=H2; clear H2; simp (disch:=omega) only [go_sem,undef,H.cs, *])
    | ((with_reducible refine wrQ0 H fun _ f H2 => ?_); clear f; clear H; have H:=H2; clear H2; simp (disch:=omega) only [go_sem,undef,H.cs, *])
    | ((with_reducible refine wrQ1 H fun _ f H2 => ?_); clear f; clear H; have H:=H2; clear H2; simp (disch:=omega) only [go_sem,undef,H.cs, *])
    | ((with_reducible refine wrQ2 H fun _ f H2 => ?_); clear f; clear H; have H:=H2; clear H2; simp (disch:=omega) only [go_sem,undef,H.cs, *])
    | ((with_reducible refine wrQ3 H fun _ f H2 => ?_); clear f; clear H; have H:=H2; clear H2; simp (disch:=omega) only [go_sem,undef,H.cs, *])
    | ((with_reducible refine wrQ4 H fun _ f H2 => ?_); clear f; clear H; have H:=H2; clear H2; simp (disch:=omega) only [go_sem,undef,H.cs, *])
    | ((with_reducible refine wrQ5 H fun _ f H2 => ?_); clear f; clear H; have H:=H2; clear H2; simp (disch:=omega) only [go_sem,undef,H.cs, *])
    | ((with_reducible refine stwQ0 H ?hl ?h1 fun _ f H2 => ?_); (case hl => rfl); (case h1 => rfl); clear f; clear H; have H:=H2; clear H2; simp (disch:=omega) only [go_sem,undef,H.cs, *])
    | ((with_reducible refine stwQ1 H ?hl ?h1 fun _ f H2 => ?_); (case hl => rfl); (case h1 => rfl); clear f; clear H; have H:=H2; clear H2; simp (disch:=omega) only [go_sem,undef,H.cs, *])
    | ((with_reducible refine stwQ2 H ?hl ?h1 fun _ f H2 => ?_); (case hl => rfl); (case h1 => rfl); clear f; clear H; have H:=H2; clear H2; simp (disch:=omega) only [go_sem,undef,H.cs, *])
    | ((with_reducible refine stwQ3 H ?hl ?h1 fun _ f H2 => ?_); (case hl => rfl); (case h1 => rfl); clear f; clear H; have H:=H2; clear H2; simp (disch:=omega) only [go_sem,undef,H.cs, *])
    | ((with_reducible refine stwQ4 H ?hl ?h1 fun _ f H2 => ?_); (case hl => rfl); (case h1 => rfl); clear f; clear H; have H:=H2; clear H2; simp (disch:=omega) only [go_sem,undef,H.cs, *])
    | ((with_reducible refine stwQ5 H ?hl ?h1 fun _ f H2 => ?_); (case hl => rfl); (case h1 => rfl); clear f; clear H; have H:=H2; clear H2; simp (disch:=omega) only [go_sem,undef,H.cs, *])
    | ((with_reducible refine stQ0 H ?hl ?h1 fun _ f H2 => ?_); (case hl => exact Nat.le_of_ble_eq_true rfl); (case h1 => rfl); clear f; (simp only [go_sem] at H2); clear H; have H:=H2; clear H2; simp (disch:=omega) only [go_sem,undef,H.cs, *])
    | ((with_reducible refine stQ1 H ?hl ?h1 fun _ f H2 => ?_); (case hl => exact Nat.le_of_ble_eq_true rfl); (case h1 => rfl); clear f; (simp only [go_sem] at H2); clear H; have H:=H2; clear H2; simp (disch:=omega) only [go_sem,undef,H.cs, *])
    | ((with_reducible refine stQ2 H ?hl ?h1 fun _ f H2 => ?_); (case hl => exact Nat.le_of_ble_eq_true rfl); (case h1 => rfl); clear f; (simp only [go_sem] at H2); clear H; have H:=H2; clear H2; simp (disch:=omega) only [go_sem,undef,H.cs, *])
    | ((with_reducible refine stQ3 H ?hl ?h1 fun _ f H2 => ?_); (case hl => exact Nat.le_of_ble_eq_true rfl); (case h1 => rfl); clear f; (simp only [go_sem] at H2); clear H; have H:=H2; clear H2; simp (disch:=omega) only [go_sem,undef,H.cs, *])
    | ((with_reducible refine gQ_split (fun hq => ?_) (fun hq => ?_)) <;> (try simp only [Bool.not_true,Bool.not_false] at hq) <;> simp (disch:=omega) only [go_sem,undef,H.cs, *])
    | ((with_reducible refine condB_split (fun hq => ?_) (fun hq => ?_)) <;> simp (disch:=omega) only [go_sem,undef,H.cs, *]))
  all_goals (try simp only [decide_eq_true_eq,decide_eq_false_iff_not] at *)
  all_goals exact ⟨by first | rfl | (simp only [Value.bool.injEq,decide_eq_true_eq,eq_comm (a:=true),eq_comm (a:=false),decide_eq_false_iff_not,decide_eq_decide]; grind []),H.fr⟩
theorem slow_s (n:Nat) (hn:n ≤ 1000) (m:Mem):MC Tryz.prog n_quorum_Slow [.int .i64 (n:Nat)] m fun v m' => v = .int .i64 ((n / 2 + 1:Nat):Int) ∧ Fr m m' []:=by
  refine Q76go (by simp [Tryz.f33]) ?_
  have H:=Hq.refl m []
  have e:Int.tdiv ((n:Nat):Int) 2 = ((n / 2:Nat):Int):=rfl
  simp (disch:=omega) only [go_sem,undef,e]
  exact ⟨by congr 1,H.fr⟩
theorem fast_s (n:Nat) (hn:n ≤ 1000) (m:Mem):MC Tryz.prog n_quorum_Fast [.int .i64 (n:Nat)] m fun v m' => v = .int .i64 (n - 1) ∧ Fr m m' []:=by
  refine Q117go (by simp [Tryz.f33]) ?_
  have H:=Hq.refl m []
  simp (disch:=omega) only [go_sem,undef]
  exact ⟨rfl,H.fr⟩
def noopA (p:Int × Int):Att:=if rightI p then ⟨0,Dp.up Dp.zero p.1.toNat (p.2 - 1)⟩ else Att.zero
theorem noop_s (p:Int × Int) (m:Mem):MC Tryz.prog n_quorum_Noop [pv p] m fun v m' => v = (noopA p).v ∧ Fr m m' []:=by
  by_cases hr:rightI p
  · refine Q103go (by simp [Tryz.f33]) ?_
    have H:=Hq.refl m []
    have h1:=hr.1
    have h2:=hr.2.1
    have h3:=hr.2.2.1
    have h4:=hr.2.2.2
    simp (disch:=omega) only [go_sem,undef]
    repeat' (first
      | ((with_reducible refine newQ H fun _ _ f H2 => ?_); clear f; clear H; have H:=H2; clear H2; simp (disch:=omega) only [go_sem,undef,H.cs, *,decide_eq_true hr])
      | ((with_reducible refine wrQ0 H fun _ f H2 => ?_); clear f; clear H; have H:=H2; clear H2; simp (disch:=omega) only [go_sem,undef,H.cs, *,decide_eq_true hr])
      | ((with_reducible refine wrQ1 H fun _ f H2 => ?_); clear f; clear H; have H:=H2; clear H2; simp (disch:=omega) only [go_sem,undef,H.cs, *,decide_eq_true hr])
      | ((with_reducible refine wrQ2 H fun _ f H2 => ?_); clear f; clear H; have H:=H2; clear H2; simp (disch:=omega) only [go_sem,undef,H.cs, *,decide_eq_true hr])
      | ((with_reducible refine wrQ3 H fun _ f H2 => ?_); clear f; clear H; have H:=H2; clear H2; simp (disch:=omega) only [go_sem,undef,H.cs, *,decide_eq_true hr])
      | ((with_reducible refine wrQ4 H fun _ f H2 => ?_); clear f; clear H; have H:=H2; clear H2; simp (disch:=omega) only [go_sem,undef,H.cs, *,decide_eq_true hr])
      | ((with_reducible refine wrQ5 H fun _ f H2 => ?_); clear f; clear H; have H:=H2; clear H2; simp (disch:=omega) only [go_sem,undef,H.cs, *,decide_eq_true hr])
      | ((with_reducible refine stwQ0 H ?hl ?h1 fun _ f H2 => ?_); (case hl => rfl); (case h1 => rfl); clear f; clear H; have H:=H2; clear H2; simp (disch:=omega) only [go_sem,undef,H.cs, *,decide_eq_true hr])
      | ((with_reducible refine stwQ1 H ?hl ?h1 fun _ f H2 => ?_); (case hl => rfl); (case h1 => rfl); clear f; clear H; have H:=H2; clear H2; simp (disch:=omega) only [go_sem,undef,H.cs, *,decide_eq_true hr])
      | ((with_reducible refine stwQ2 H ?hl ?h1 fun _ f H2 => ?_); (case hl => rfl); (case h1 => rfl); clear f; clear H; have H:=H2; clear H2; simp (disch:=omega) only [go_sem,undef,H.cs, *,decide_eq_true hr])
      | ((with_reducible refine stwQ3 H ?hl ?h1 fun _ f H2 => ?_); (case hl => rfl); (case h1 => rfl); clear f; clear H; have H:=H2; clear H2; simp (disch:=omega) only [go_sem,undef,H.cs, *,decide_eq_true hr])
      | ((with_reducible refine stwQ4 H ?hl ?h1 fun _ f H2 => ?_); (case hl => rfl); (case h1 => rfl); clear f; clear H; have H:=H2; clear H2; simp (disch:=omega) only [go_sem,undef,H.cs, *,decide_eq_true hr])
      | ((with_reducible refine stwQ5 H ?hl ?h1 fun _ f H2 => ?_); (case hl => rfl); (case h1 => rfl); clear f; clear H; have H:=H2; clear H2; simp (disch:=omega) only [go_sem,undef,H.cs, *,decide_eq_true hr])
      | ((with_reducible refine stQ0 H ?hl ?h1 fun _ f H2 => ?_); (case hl => exact Nat.le_of_ble_eq_true rfl); (case h1 => rfl); clear f; (simp only [go_sem] at H2); clear H; have H:=H2; clear H2; simp (disch:=omega) only [go_sem,undef,H.cs, *,decide_eq_true hr])
      | ((with_reducible refine stQ1 H ?hl ?h1 fun _ f H2 => ?_); (case hl => exact Nat.le_of_ble_eq_true rfl); (case h1 => rfl); clear f; (simp only [go_sem] at H2); clear H; have H:=H2; clear H2; simp (disch:=omega) only [go_sem,undef,H.cs, *,decide_eq_true hr])
      | ((with_reducible refine stQ2 H ?hl ?h1 fun _ f H2 => ?_); (case hl => exact Nat.le_of_ble_eq_true rfl); (case h1 => rfl); clear f; (simp only [go_sem] at H2); clear H; have H:=H2; clear H2; simp (disch:=omega) only [go_sem,undef,H.cs, *,decide_eq_true hr])
      | ((with_reducible refine stQ3 H ?hl ?h1 fun _ f H2 => ?_); (case hl => exact Nat.le_of_ble_eq_true rfl); (case h1 => rfl); clear f; (simp only [go_sem] at H2); clear H; have H:=H2; clear H2; simp (disch:=omega) only [go_sem,undef,H.cs, *,decide_eq_true hr])
      | ((with_reducible refine callQ H (inst_Right_s _ _) fun _ f H2 => ?_); clear f; clear H; have H:=H2; clear H2; simp (disch:=omega) only [go_sem,undef,H.cs, *,decide_eq_true hr])
      | ((with_reducible refine gQ_split (fun hq => ?_) (fun hq => ?_)) <;> (try simp only [Bool.not_true,Bool.not_false] at hq) <;> simp (disch:=omega) only [go_sem,undef,H.cs, *,decide_eq_true hr])
      | ((with_reducible refine condB_split (fun hq => ?_) (fun hq => ?_)) <;> simp (disch:=omega) only [go_sem,undef,H.cs, *,decide_eq_true hr]))
    exact ⟨by rw [noopA,if_pos hr],H.fr⟩
  · refine Q103go (by simp [Tryz.f33]) ?_
    have H:=Hq.refl m []
    simp (disch:=omega) only [go_sem,undef]
    repeat' (first
      | ((with_reducible refine newQ H fun _ _ f H2 => ?_); clear f; clear H; have H:=H2; clear H2; simp (disch:=omega) only [go_sem,undef,H.cs, *,decide_eq_false hr])
      | ((with_reducible refine wrQ0 H fun _ f H2 => ?_); clear f; clear H; have H:=H2; clear H2; simp (disch:=omega) only [go_sem,undef,H.cs, *,decide_eq_false hr])
      | ((with_reducible refine wrQ1 H fun _ f H2 => ?_); clear f; clear H; have H:=H2; clear H2; simp (disch:=omega) only [go_sem,undef,H.cs, *,decide_eq_false hr])
      | ((with_reducible refine wrQ2 H fun _ f H2 => ?_); clear f; clear H; have H:=H2; clear H2; simp (disch:=omega) only [go_sem,undef,H.cs, *,decide_eq_false hr])
      | ((with_reducible refine wrQ3 H fun _ f H2 => ?_); clear f; clear H; have H:=H2; clear H2; simp (disch:=omega) only [go_sem,undef,H.cs, *,decide_eq_false hr])
      | ((with_reducible refine wrQ4 H fun _ f H2 => ?_); clear f; clear H; have H:=H2; clear H2; simp (disch:=omega) only [go_sem,undef,H.cs, *,decide_eq_false hr])
      | ((with_reducible refine wrQ5 H fun _ f H2 => ?_); clear f; clear H; have H:=H2; clear H2; simp (disch:=omega) only [go_sem,undef,H.cs, *,decide_eq_false hr])
      | ((with_reducible refine stwQ0 H ?hl ?h1 fun _ f H2 => ?_); (case hl => rfl); (case h1 => rfl); clear f; clear H; have H:=H2; clear H2; simp (disch:=omega) only [go_sem,undef,H.cs, *,decide_eq_false hr])
      | ((with_reducible refine stwQ1 H ?hl ?h1 fun _ f H2 => ?_); (case hl => rfl); (case h1 => rfl); clear f; clear H; have H:=H2; clear H2; simp (disch:=omega) only [go_sem,undef,H.cs, *,decide_eq_false hr])
      | ((with_reducible refine stwQ2 H ?hl ?h1 fun _ f H2 => ?_); (case hl => rfl); (case h1 => rfl); clear f; clear H; have H:=H2; clear H2; simp (disch:=omega) only [go_sem,undef,H.cs, *,decide_eq_false hr])
      | ((with_reducible refine stwQ3 H ?hl ?h1 fun _ f H2 => ?_); (case hl => rfl); (case h1 => rfl); clear f; clear H; have H:=H2; clear H2; simp (disch:=omega) only [go_sem,undef,H.cs, *,decide_eq_false hr])
      | ((with_reducible refine stwQ4 H ?hl ?h1 fun _ f H2 => ?_); (case hl => rfl); (case h1 => rfl); clear f; clear H; have H:=H2; clear H2; simp (disch:=omega) only [go_sem,undef,H.cs, *,decide_eq_false hr])
      | ((with_reducible refine stwQ5 H ?hl ?h1 fun _ f H2 => ?_); (case hl => rfl); (case h1 => rfl); clear f; clear H; have H:=H2; clear H2; simp (disch:=omega) only [go_sem,undef,H.cs, *,decide_eq_false hr])
      | ((with_reducible refine stQ0 H ?hl ?h1 fun _ f H2 => ?_); (case hl => exact Nat.le_of_ble_eq_true rfl); (case h1 => rfl); clear f; (simp only [go_sem] at H2); clear H; have H:=H2; clear H2; simp (disch:=omega) only [go_sem,undef,H.cs, *,decide_eq_false hr])
      | ((with_reducible refine stQ1 H ?hl ?h1 fun _ f H2 => ?_); (case hl => exact Nat.le_of_ble_eq_true rfl); (case h1 => rfl); clear f; (simp only [go_sem] at H2); clear H; have H:=H2; clear H2; simp (disch:=omega) only [go_sem,undef,H.cs, *,decide_eq_false hr])
      | ((with_reducible refine stQ2 H ?hl ?h1 fun _ f H2 => ?_); (case hl => exact Nat.le_of_ble_eq_true rfl); (case h1 => rfl); clear f; (simp only [go_sem] at H2); clear H; have H:=H2; clear H2; simp (disch:=omega) only [go_sem,undef,H.cs, *,decide_eq_false hr])
      | ((with_reducible refine stQ3 H ?hl ?h1 fun _ f H2 => ?_); (case hl => exact Nat.le_of_ble_eq_true rfl); (case h1 => rfl); clear f; (simp only [go_sem] at H2); clear H; have H:=H2; clear H2; simp (disch:=omega) only [go_sem,undef,H.cs, *,decide_eq_false hr])
      | ((with_reducible refine callQ H (inst_Right_s _ _) fun _ f H2 => ?_); clear f; clear H; have H:=H2; clear H2; simp (disch:=omega) only [go_sem,undef,H.cs, *,decide_eq_false hr])
      | ((with_reducible refine gQ_split (fun hq => ?_) (fun hq => ?_)) <;> (try simp only [Bool.not_true,Bool.not_false] at hq) <;> simp (disch:=omega) only [go_sem,undef,H.cs, *,decide_eq_false hr])
      | ((with_reducible refine condB_split (fun hq => ?_) (fun hq => ?_)) <;> simp (disch:=omega) only [go_sem,undef,H.cs, *,decide_eq_false hr]))
    exact ⟨by rw [noopA,if_neg hr],H.fr⟩
/-- what replies to a proposal come to -/
def sameN (own:Att) (l:List Att):Nat:=l.countP fun a => decide (a = own)
theorem sameN_take (own:Att) (l:List Att) (j:Nat) (y:Att) (h:l[j]? = some y):sameN own (l.take (j + 1)) = sameN own (l.take j) + if y = own then 1 else 0:=by
  unfold sameN
  rw [List.take_add_one,h,Option.toList_some,List.countP_append]
  simp [List.countP_cons]
theorem sameN_le (own:Att) (l:List Att):sameN own l ≤ l.length:=List.countP_le_length
def preQ (n:Nat) (first:Bool) (own:Att) (l:List Att) (late:Bool):Int × Att :=
  if first = true ∧ n ≤ sameN own l + 2 then (1,own) else if l.length < n / 2 ∨ (first = true ∧ late = false ∧ l.length < sameN own l + 2) then (0,Att.zero) else (2,joinL (own :: l))
set_option maxHeartbeats 4000000 in
theorem pre_s {a:Option Addr} {c n:Nat} {first late:Bool} {own:Att} {l:List Att} (hv:RdS 8 Att.cs m (.slice a l.length c) l) (hn:n ≤ 100) (hl:l.length ≤ 100) :
    MC Tryz.prog n_quorum_Pre [.int .i64 (n:Nat),.bool first,own.v,.slice a l.length c,.bool late] m fun v m' => v = .tuple #[.int .i64 (preQ n first own l late).1,(preQ n first own l late).2.v] ∧ Fr m m' []:=by
  have hle:=sameN_le own l
  refine Q89go (by simp [Tryz.f33]) ?_
  have H:=Hq.refl m []
  simp (disch:=omega) only [go_sem,undef]
  refine newQ H fun b M f H => ?_
  simp (disch:=omega) only [go_sem,undef]
  refine newQ H fun b1 M f H => ?_
  simp (disch:=omega) only [go_sem,undef]
  refine loopQ_intro (fun k E m' => ∃ (j:Nat),j ≤ l.length ∧ k = l.length - j ∧ E = [(0,.int .i64 (n:Nat)),(1,.bool first),(3,.slice a l.length c),(4,.bool late),(7,.pointer (some ⟨b,0,none⟩)),(11,.pointer (some ⟨b1,0,none⟩)),(12,.int .i64 (sameN own (l.take j):Nat)),(15,.slice a l.length c),(16,.int .i64 (l.length:Nat)),(17,.int .i64 (j:Nat))] ∧
    Hq m m' [] [cellA b1 (.cells Att.zero.cs.toArray T_api_Attr),cellA b (.cells own.cs.toArray T_api_Attr)]) l.length rfl ⟨0,by omega,rfl,rfl,H⟩ ?_
  clear H f
  rintro k E M1 ⟨j,hj,rfl,rfl,H⟩
  by_cases hlt:j < l.length
  · refine RdS.elK (hv.frame H.fr) hlt (by decide) fun bx o z hz hixz hEz => ?_
    have hs:=sameN_take own l j z hz
    have hle2:=sameN_le own (l.take j)
    rw [List.length_take] at hle2
    simp (disch:=omega) only [go_sem,undef,dec_t (show ((j:Nat):Int) < (l.length:Nat) by omega),hixz,hEz.lda0 8 (by decide) (by decide)]
    refine newQ H fun b5 M f H => ?_
    simp (disch:=omega) only [go_sem,undef,H.cs]
    refine stwQ0 H rfl rfl fun M f H => ?_
    by_cases hzo:z = own
    · rw [if_pos hzo] at hs
      simp (disch:=omega) only [go_sem,undef,H.cs,dec_t hzo]
      exact handN_intro (l.length - (j + 1)) (by omega) ⟨j + 1,by omega,rfl,by rw [hs]; rfl,H.tail⟩
    · rw [if_neg hzo] at hs
      simp (disch:=omega) only [go_sem,undef,H.cs,dec_f hzo]
      exact handN_intro (l.length - (j + 1)) (by omega) ⟨j + 1,by omega,rfl,by rw [hs]; rfl,H.tail⟩
  · have e:j = l.length:=by omega
    subst e
    rw [List.take_length] at *
    have hp:preQ n first own l late = if first = true ∧ n ≤ sameN own l + 2 then (1,own) else if l.length < n / 2 ∨ (first = true ∧ late = false ∧ l.length < sameN own l + 2) then (0,Att.zero) else (2,joinL (own :: l)):=rfl
    generalize preQ n first own l late = q at *
    generalize sameN own l = s at *
    have hone:∀ v ∈ l.flatMap Att.cs,v.oneCell' = true:=fun v hv => by
      obtain ⟨x,_,hx⟩:=List.mem_flatMap.1 hv
      exact List.all_eq_true.1 (Att.one x) v hx
    cases first <;> cases late
    all_goals
      simp only [Bool.false_eq_true,Bool.true_eq_false,true_and,false_and,if_false,or_false,reduceCtorEq] at hp
      simp (disch:=omega) only [go_sem,undef,dec_f (show ¬ ((l.length:Nat):Int) < (l.length:Nat) by omega)]
      repeat' (first
        | ((with_reducible refine newQ H fun _ _ f H2 => ?_); clear f; clear H; have H:=H2; clear H2; simp (disch:=omega) only [go_sem,undef,H.cs, *])
        | ((with_reducible refine wrQ0 H fun _ f H2 => ?_); clear f; clear H; have H:=H2; clear H2; simp (disch:=omega) only [go_sem,undef,H.cs, *])
        | ((with_reducible refine wrQ1 H fun _ f H2 => ?_); clear f; clear H; have H:=H2; clear H2; simp (disch:=omega) only [go_sem,undef,H.cs, *])
        | ((with_reducible refine wrQ2 H fun _ f H2 => ?_); clear f; clear H; have H:=H2; clear H2; simp (disch:=omega) only [go_sem,undef,H.cs, *])
        | ((with_reducible refine wrQ3 H fun _ f H2 => ?_); clear f; clear H; have H:=H2; clear H2; simp (disch:=omega) only [go_sem,undef,H.cs, *])
        | ((with_reducible refine wrQ4 H fun _ f H2 => ?_); clear f; clear H; have H:=H2; clear H2; simp (disch:=omega) only [go_sem,undef,H.cs, *])
        | ((with_reducible refine wrQ5 H fun _ f H2 => ?_); clear f; clear H; have H:=H2; clear H2; simp (disch:=omega) only [go_sem,undef,H.cs, *])
        | ((with_reducible refine stwQ0 H ?hl ?h1 fun _ f H2 => ?_); (case hl => rfl); (case h1 => rfl); clear f; clear H; have H:=H2; clear H2; simp (disch:=omega) only [go_sem,undef,H.cs, *])
        | ((with_reducible refine stwQ1 H ?hl ?h1 fun _ f H2 => ?_); (case hl => rfl); (case h1 => rfl); clear f; clear H; have H:=H2; clear H2; simp (disch:=omega) only [go_sem,undef,H.cs, *])
        | ((with_reducible refine stwQ2 H ?hl ?h1 fun _ f H2 => ?_); (case hl => rfl); (case h1 => rfl); clear f; clear H; have H:=H2; clear H2; simp (disch:=omega) only [go_sem,undef,H.cs, *])
        | ((with_reducible refine stwQ3 H ?hl ?h1 fun _ f H2 => ?_); (case hl => rfl); (case h1 => rfl); clear f; clear H; have H:=H2; clear H2; simp (disch:=omega) only [go_sem,undef,H.cs, *])
        | ((with_reducible refine stwQ4 H ?hl ?h1 fun _ f H2 => ?_); (case hl => rfl); (case h1 => rfl); clear f; clear H; have H:=H2; clear H2; simp (disch:=omega) only [go_sem,undef,H.cs, *])
        | ((with_reducible refine stwQ5 H ?hl ?h1 fun _ f H2 => ?_); (case hl => rfl); (case h1 => rfl); clear f; clear H; have H:=H2; clear H2; simp (disch:=omega) only [go_sem,undef,H.cs, *])
        | ((with_reducible refine stQ0 H ?hl ?h1 fun _ f H2 => ?_); (case hl => exact Nat.le_of_ble_eq_true rfl); (case h1 => rfl); clear f; (simp only [go_sem] at H2); clear H; have H:=H2; clear H2; simp (disch:=omega) only [go_sem,undef,H.cs, *])
        | ((with_reducible refine stQ1 H ?hl ?h1 fun _ f H2 => ?_); (case hl => exact Nat.le_of_ble_eq_true rfl); (case h1 => rfl); clear f; (simp only [go_sem] at H2); clear H; have H:=H2; clear H2; simp (disch:=omega) only [go_sem,undef,H.cs, *])
        | ((with_reducible refine stQ2 H ?hl ?h1 fun _ f H2 => ?_); (case hl => exact Nat.le_of_ble_eq_true rfl); (case h1 => rfl); clear f; (simp only [go_sem] at H2); clear H; have H:=H2; clear H2; simp (disch:=omega) only [go_sem,undef,H.cs, *])
        | ((with_reducible refine stQ3 H ?hl ?h1 fun _ f H2 => ?_); (case hl => exact Nat.le_of_ble_eq_true rfl); (case h1 => rfl); clear f; (simp only [go_sem] at H2); clear H; have H:=H2; clear H2; simp (disch:=omega) only [go_sem,undef,H.cs, *])
        | ((with_reducible refine callQ H (fast_s n (by omega) _) fun _ f H2 => ?_); clear f; clear H; have H:=H2; clear H2; simp (disch:=omega) only [go_sem,undef,H.cs, *])
        | ((with_reducible refine callQ H (slow_s n (by omega) _) fun _ f H2 => ?_); clear f; clear H; have H:=H2; clear H2; simp (disch:=omega) only [go_sem,undef,H.cs, *])
        | ((with_reducible refine gQ_split (fun hq => ?_) (fun hq => ?_)) <;> (try simp only [Bool.not_true,Bool.not_false] at hq) <;> simp (disch:=omega) only [go_sem,undef,H.cs, *])
        | ((with_reducible refine condB_split (fun hq => ?_) (fun hq => ?_)) <;> simp (disch:=omega) only [go_sem,undef,H.cs, *]))
    all_goals (try simp only [decide_eq_true_eq,decide_eq_false_iff_not] at *)
    all_goals first
      | (refine post_intro ⟨?_,H.fr⟩
         rw [hp]
         repeat' split
         all_goals first | rfl | (exfalso; omega))
      | (refine appQ0 (H.toRow 8 1 1 rfl (Nat.le_refl _)) (k:=l.length) rfl (ldS_of (hv.frame H.fr)) (fm_len Att.len l) hone rfl (by omega) (by omega) fun w M f H => ?_
         have ho:Own M 39 8 w (own :: l).length ((own :: l).flatMap Att.cs):=by rw [List.length_cons,Nat.add_comm]; exact H.at 0 rfl
         refine Own.formK ho fun a c e => ?_
         subst e
         simp (disch:=omega) only [go_sem,undef]
         refine callQ H (join_s (l:=own :: l) rfl (Own.rds (by decide) Att.len ho) (by simp) (by simp; omega)) fun M f H => ?_
         simp (disch:=omega) only [go_sem,undef]
         refine stwQ1 H rfl rfl fun M f H => ?_
         simp (disch:=omega) only [go_sem,undef,H.cs]
         refine ⟨?_,H.fr⟩
         rw [hp]
         repeat' split
         all_goals first | rfl | (exfalso; omega))
end Go.Fw
namespace Go.Fw
open Go.Proofs
variable {m m0 M:Mem} {S:List Nat} {L:List As}
def Sd.at (l:List Sd) (i:Int):Sd:=(l[i.toNat]?).getD Sd.zero
def bestN (l:List Sd) (st:Int):Nat → Int
  | 0 => -1
  | j + 1 => if (Sd.at l j).cel.st = st ∧ (bestN l st j < 0 ∨ lt2 (Sd.at l (bestN l st j)).cel.vo (Sd.at l j).cel.vo) then j else bestN l st j
theorem bestN_lt (l:List Sd) (st:Int):∀ j,-1 ≤ bestN l st j ∧ bestN l st j < j
  | 0 => by simp [bestN]
  | j + 1 => by
    have:=bestN_lt l st j
    unfold bestN
    split <;> omega
theorem Sd.at_some {l:List Sd} {j:Nat} {s:Sd} (h:l[j]? = some s):Sd.at l (j:Nat) = s:=by unfold Sd.at; rw [Int.toNat_natCast,h]; rfl
set_option maxHeartbeats 4000000 in
theorem best_s {a:Option Addr} {c:Nat} {l:List Sd} {st:Int} (hv:RdS 22 Sd.cs m (.slice a l.length c) l) (hl:l.length ≤ 100) :
    MC Tryz.prog n_quorum_best [.slice a l.length c,.int .i64 st] m fun v m' => v = .int .i64 (bestN l st l.length) ∧ Fr m m' []:=by
  refine Q130go (by simp [Tryz.f33]) ?_
  have H:=Hq.refl m []
  simp (disch:=omega) only [go_sem,undef]
  refine loopQ_intro (fun k E m' => ∃ (j:Nat),j ≤ l.length ∧ k = l.length - j ∧ E = [(0,.slice a l.length c),(1,.int .i64 st),(5,.int .i64 (bestN l st j)),(8,.slice a l.length c),(9,.int .i64 (l.length:Nat)),(10,.int .i64 (j:Nat))] ∧ Hq m m' [] []) l.length rfl ⟨0,by omega,rfl,rfl,H⟩ ?_
  clear H
  rintro k E M1 ⟨j,hj,rfl,rfl,H⟩
  by_cases hlt:j < l.length
  · refine RdS.elK (hv.frame H.fr) hlt (by decide) fun bx o z hz hixz hEz => ?_
    have hb:=bestN_lt l st j
    have hz2:=Sd.at_some hz
    have hs:bestN l st (j + 1) = if z.cel.st = st ∧ (bestN l st j < 0 ∨ lt2 (Sd.at l (bestN l st j)).cel.vo z.cel.vo) then (j:Int) else bestN l st j:=by rw [bestN,hz2]
    simp (disch:=omega) only [go_sem,undef,dec_t (show ((j:Nat):Int) < (l.length:Nat) by omega),hixz,hEz.lda0 22 (by decide) (by decide)]
    refine newQ H fun b5 M f H => ?_
    simp (disch:=omega) only [go_sem,undef,H.cs]
    refine stwQ0 H rfl rfl fun M f H => ?_
    by_cases hst:z.cel.st = st
    · by_cases hb0:bestN l st j < 0
      · rw [if_pos ⟨hst,.inl hb0⟩] at hs
        simp (disch:=omega) only [go_sem,undef,H.cs,dec_t hst,dec_t hb0]
        exact handN_intro (l.length - (j + 1)) (by omega) ⟨j + 1,by omega,rfl,by rw [hs]; rfl,H.tail⟩
      · refine Exists.elim (⟨(bestN l st j).toNat,by omega⟩:∃ q:Nat,bestN l st j = (q:Int)) fun q hq => ?_
        rw [hq] at hs hb hb0
        refine RdS.elK (hv.frame H.fr) (show q < l.length by omega) (by decide) fun bx2 o2 w hw hixw hEw => ?_
        have hw2:=Sd.at_some hw
        rw [hw2] at hs
        have hlw:=hEw.lda 4 2 (by decide) (by decide)
        rw [Sd.sub_vo] at hlw
        by_cases hlt2:lt2 w.cel.vo z.cel.vo
        · rw [if_pos ⟨hst,.inr hlt2⟩] at hs
          simp (disch:=omega) only [go_sem,undef,H.cs,dec_t hst,dec_f hb0,hq,hixw,hlw]
          refine callQ H (inst_Below_s w.cel.vo z.cel.vo _) fun M f H => ?_
          simp (disch:=omega) only [go_sem,undef,dec_t hlt2]
          exact handN_intro (l.length - (j + 1)) (by omega) ⟨j + 1,by omega,rfl,by rw [hs]; rfl,H.tail⟩
        · rw [if_neg (fun h => h.2.elim hb0 hlt2)] at hs
          simp (disch:=omega) only [go_sem,undef,H.cs,dec_t hst,dec_f hb0,hq,hixw,hlw]
          refine callQ H (inst_Below_s w.cel.vo z.cel.vo _) fun M f H => ?_
          simp (disch:=omega) only [go_sem,undef,dec_f hlt2]
          exact handN_intro (l.length - (j + 1)) (by omega) ⟨j + 1,by omega,rfl,by rw [hs]; rfl,H.tail⟩
    · rw [if_neg (fun h => hst h.1)] at hs
      simp (disch:=omega) only [go_sem,undef,H.cs,dec_f hst]
      exact handN_intro (l.length - (j + 1)) (by omega) ⟨j + 1,by omega,rfl,by rw [hs]; rfl,H.tail⟩
  · have e:j = l.length:=by omega
    subst e
    simp (disch:=omega) only [go_sem,undef,dec_f (show ¬ ((l.length:Nat):Int) < (l.length:Nat) by omega)]
    exact ⟨rfl,H.fr⟩
end Go.Fw
namespace Go.Fw
open Go.Proofs
variable {m m0 M:Mem} {S:List Nat} {L:List As}
abbrev goodS (o:Int) (s:Sd):Prop:=s.rep ≠ o ∧ s.cel.st = 1 ∧ s.cel.same = true
def sameS (o:Int) (l:List Sd):Nat → Nat
  | 0 => 0
  | j + 1 => sameS o l j + if goodS o (Sd.at l j) then 1 else 0
def firstS (o:Int) (l:List Sd):Nat → Int
  | 0 => -1
  | j + 1 => if goodS o (Sd.at l j) ∧ firstS o l j < 0 then j else firstS o l j
def thereS (o:Int) (l:List Sd):Nat → Bool
  | 0 => false
  | j + 1 => if (Sd.at l j).rep = o then true else thereS o l j
theorem sameS_le (o:Int) (l:List Sd):∀ j,sameS o l j ≤ j
  | 0 => Nat.le_refl _
  | j + 1 => by
    have:=sameS_le o l j
    unfold sameS
    split <;> omega
theorem firstS_lt (o:Int) (l:List Sd):∀ j,-1 ≤ firstS o l j ∧ firstS o l j < j ∧ (0 < sameS o l j → 0 ≤ firstS o l j)
  | 0 => by simp [firstS,sameS]
  | j + 1 => by
    obtain ⟨h1,h2,h3⟩:=firstS_lt o l j
    unfold firstS sameS
    by_cases hg:goodS o (Sd.at l j)
    · rw [if_pos hg]
      by_cases hf:firstS o l j < 0
      · rw [if_pos ⟨hg,hf⟩]; omega
      · rw [if_neg (fun h => hf h.2)]; omega
    · rw [if_neg hg,if_neg (fun h => hg h.1)]
      exact ⟨h1,by omega,fun h => h3 (by omega)⟩
def prepQ (n:Nat) (o:Int) (l:List Sd):Int × Cmd × Att :=
  if l.length < n / 2 + 1 then (0,Cmd.zero,Att.zero) else
  match l.find? fun s => decide (s.cel.st = 3) with
  | some s => (1,s.cel.cmd,s.cel.att)
  | none =>
    if 0 ≤ bestN l 2 l.length then (2,(Sd.at l (bestN l 2 l.length)).cel.cmd,(Sd.at l (bestN l 2 l.length)).cel.att) else
    if bestN l 1 l.length < 0 then (4,Cmd.zero,Att.zero) else
    if thereS o l l.length = false ∧ n / 2 ≤ sameS o l l.length then (2,(Sd.at l (firstS o l l.length)).cel.cmd,(Sd.at l (firstS o l l.length)).cel.att) else
    (3,(Sd.at l (bestN l 1 l.length)).cel.cmd,(Sd.at l (bestN l 1 l.length)).cel.att)
theorem find_at {l:List Sd} {j:Nat} {z:Sd} (h:∀ i,i < j → (Sd.at l (i:Nat)).cel.st ≠ 3) (hz:l[j]? = some z) (h3:z.cel.st = 3):l.find? (fun s => decide (s.cel.st = 3)) = some z:=by
  obtain ⟨hj,e⟩:=List.getElem?_eq_some_iff.1 hz
  rw [List.find?_eq_some_iff_getElem]
  refine ⟨by simp [h3],j,hj,e,fun i hi => ?_⟩
  have:=h i hi
  rw [Sd.at_some (List.getElem?_eq_getElem (by omega))] at this
  simp [this]
theorem find_none {l:List Sd} (h:∀ i,i < l.length → (Sd.at l (i:Nat)).cel.st ≠ 3):l.find? (fun s => decide (s.cel.st = 3)) = none:=by
  rw [List.find?_eq_none]
  intro s hs
  obtain ⟨i,hi⟩:=List.getElem?_of_mem hs
  have hil:=(List.getElem?_eq_some_iff.1 hi).1
  have:=h i hil
  rw [Sd.at_some hi] at this
  simp [this]
theorem sd_read {a:Option Addr} {c:Nat} {l:List Sd} {i:Int} {G:Prop} (hv:RdS 22 Sd.cs m (.slice a l.length c) l) (h0:0 ≤ i) (hi:i < l.length)
    (K:∀ b o,(∀ kd M,rd (.ixs 22) [.slice a l.length c,.int kd i] M = some (.pointer (some ⟨b,o,none⟩))) → m b ≠ none → ldaO (m b) (o + 6) 7 = some (.agg (Sd.at l i).cel.cmd.cs.toArray) → ldaO (m b) (o + 13) 8 = some (.agg (Sd.at l i).cel.att.cs.toArray) → G):G:=by
  obtain ⟨j,rfl⟩:∃ j:Nat,i = (j:Int):=⟨i.toNat,by omega⟩
  refine RdS.elK hv (show j < l.length by omega) (by decide) fun b o z hz hix hE => ?_
  have h1:=hE.lda 6 7 (by decide) (by decide)
  have h2:=hE.lda 13 8 (by decide) (by decide)
  rw [Sd.sub_cmd] at h1
  rw [Sd.sub_att] at h2
  rw [Sd.at_some hz] at K
  refine K b o hix (fun e => ?_) h1 h2
  have:=hE.cell 0 _ rfl
  rw [e] at this; simp [cellAt] at this
set_option maxHeartbeats 16000000 in
theorem prepared_s {a:Option Addr} {c n:Nat} {o:Int} {l:List Sd} (hv:RdS 22 Sd.cs m (.slice a l.length c) l) (hn:n ≤ 100) (hn2:2 ≤ n) (hl:l.length ≤ 100) :
    MC Tryz.prog n_quorum_Prepared [.int .i64 (n:Nat),.int .i64 o,.slice a l.length c] m fun v m' => v = .tuple #[.int .i64 (prepQ n o l).1,(prepQ n o l).2.1.v,(prepQ n o l).2.2.v] ∧ Fr m m' []:=by
  by_cases hsm:l.length < n / 2 + 1
  · have hp:prepQ n o l = (0,Cmd.zero,Att.zero):=if_pos hsm
    rw [hp]
    refine Q102go (by simp [Tryz.f33]) ?_
    have H:=Hq.refl m []
    simp (disch:=omega) only [go_sem,undef]
    repeat' (first
      | ((with_reducible refine newQ H fun _ _ f H2 => ?_); clear f; clear H; have H:=H2; clear H2; simp (disch:=omega) only [go_sem,undef,H.cs, *,dec_t (show ((l.length:Nat):Int) < ((n / 2 + 1:Nat):Int) by omega)])
      | ((with_reducible refine wrQ0 H fun _ f H2 => ?_); clear f; clear H; have H:=H2; clear H2; simp (disch:=omega) only [go_sem,undef,H.cs, *,dec_t (show ((l.length:Nat):Int) < ((n / 2 + 1:Nat):Int) by omega)])
      | ((with_reducible refine wrQ1 H fun _ f H2 => ?_); clear f; clear H; have H:=H2; clear H2; simp (disch:=omega) only [go_sem,undef,H.cs, *,dec_t (show ((l.length:Nat):Int) < ((n / 2 + 1:Nat):Int) by omega)])
      | ((with_reducible refine wrQ2 H fun _ f H2 => ?_); clear f; clear H; have H:=H2; clear H2; simp (disch:=omega) only [go_sem,undef,H.cs, *,dec_t (show ((l.length:Nat):Int) < ((n / 2 + 1:Nat):Int) by omega)])
      | ((with_reducible refine wrQ3 H fun _ f H2 => ?_); clear f; clear H; have H:=H2; clear H2; simp (disch:=omega) only [go_sem,undef,H.cs, *,dec_t (show ((l.length:Nat):Int) < ((n / 2 + 1:Nat):Int) by omega)])
      | ((with_reducible refine wrQ4 H fun _ f H2 => ?_); clear f; clear H; have H:=H2; clear H2; simp (disch:=omega) only [go_sem,undef,H.cs, *,dec_t (show ((l.length:Nat):Int) < ((n / 2 + 1:Nat):Int) by omega)])
      | ((with_reducible refine wrQ5 H fun _ f H2 => ?_); clear f; clear H; have H:=H2; clear H2; simp (disch:=omega) only [go_sem,undef,H.cs, *,dec_t (show ((l.length:Nat):Int) < ((n / 2 + 1:Nat):Int) by omega)])
      | ((with_reducible refine stwQ0 H ?hl ?h1 fun _ f H2 => ?_); (case hl => rfl); (case h1 => rfl); clear f; clear H; have H:=H2; clear H2; simp (disch:=omega) only [go_sem,undef,H.cs, *,dec_t (show ((l.length:Nat):Int) < ((n / 2 + 1:Nat):Int) by omega)])
      | ((with_reducible refine stwQ1 H ?hl ?h1 fun _ f H2 => ?_); (case hl => rfl); (case h1 => rfl); clear f; clear H; have H:=H2; clear H2; simp (disch:=omega) only [go_sem,undef,H.cs, *,dec_t (show ((l.length:Nat):Int) < ((n / 2 + 1:Nat):Int) by omega)])
      | ((with_reducible refine stwQ2 H ?hl ?h1 fun _ f H2 => ?_); (case hl => rfl); (case h1 => rfl); clear f; clear H; have H:=H2; clear H2; simp (disch:=omega) only [go_sem,undef,H.cs, *,dec_t (show ((l.length:Nat):Int) < ((n / 2 + 1:Nat):Int) by omega)])
      | ((with_reducible refine stwQ3 H ?hl ?h1 fun _ f H2 => ?_); (case hl => rfl); (case h1 => rfl); clear f; clear H; have H:=H2; clear H2; simp (disch:=omega) only [go_sem,undef,H.cs, *,dec_t (show ((l.length:Nat):Int) < ((n / 2 + 1:Nat):Int) by omega)])
      | ((with_reducible refine stwQ4 H ?hl ?h1 fun _ f H2 => ?_); (case hl => rfl); (case h1 => rfl); clear f; clear H; have H:=H2; clear H2; simp (disch:=omega) only [go_sem,undef,H.cs, *,dec_t (show ((l.length:Nat):Int) < ((n / 2 + 1:Nat):Int) by omega)])
      | ((with_reducible refine stwQ5 H ?hl ?h1 fun _ f H2 => ?_); (case hl => rfl); (case h1 => rfl); clear f; clear H; have H:=H2; clear H2; simp (disch:=omega) only [go_sem,undef,H.cs, *,dec_t (show ((l.length:Nat):Int) < ((n / 2 + 1:Nat):Int) by omega)])
      | ((with_reducible refine stQ0 H ?hl ?h1 fun _ f H2 => ?_); (case hl => exact Nat.le_of_ble_eq_true rfl); (case h1 => rfl); clear f; (simp only [go_sem] at H2); clear H; have H:=H2; clear H2; simp (disch:=omega) only [go_sem,undef,H.cs, *,dec_t (show ((l.length:Nat):Int) < ((n / 2 + 1:Nat):Int) by omega)])
      | ((with_reducible refine stQ1 H ?hl ?h1 fun _ f H2 => ?_); (case hl => exact Nat.le_of_ble_eq_true rfl); (case h1 => rfl); clear f; (simp only [go_sem] at H2); clear H; have H:=H2; clear H2; simp (disch:=omega) only [go_sem,undef,H.cs, *,dec_t (show ((l.length:Nat):Int) < ((n / 2 + 1:Nat):Int) by omega)])
      | ((with_reducible refine stQ2 H ?hl ?h1 fun _ f H2 => ?_); (case hl => exact Nat.le_of_ble_eq_true rfl); (case h1 => rfl); clear f; (simp only [go_sem] at H2); clear H; have H:=H2; clear H2; simp (disch:=omega) only [go_sem,undef,H.cs, *,dec_t (show ((l.length:Nat):Int) < ((n / 2 + 1:Nat):Int) by omega)])
      | ((with_reducible refine stQ3 H ?hl ?h1 fun _ f H2 => ?_); (case hl => exact Nat.le_of_ble_eq_true rfl); (case h1 => rfl); clear f; (simp only [go_sem] at H2); clear H; have H:=H2; clear H2; simp (disch:=omega) only [go_sem,undef,H.cs, *,dec_t (show ((l.length:Nat):Int) < ((n / 2 + 1:Nat):Int) by omega)])
      | ((with_reducible refine callQ H (slow_s n (by omega) _) fun _ f H2 => ?_); clear f; clear H; have H:=H2; clear H2; simp (disch:=omega) only [go_sem,undef,H.cs, *,dec_t (show ((l.length:Nat):Int) < ((n / 2 + 1:Nat):Int) by omega)])
      | ((with_reducible refine gQ_split (fun hq => ?_) (fun hq => ?_)) <;> (try simp only [Bool.not_true,Bool.not_false] at hq) <;> simp (disch:=omega) only [go_sem,undef,H.cs, *,dec_t (show ((l.length:Nat):Int) < ((n / 2 + 1:Nat):Int) by omega)])
      | ((with_reducible refine condB_split (fun hq => ?_) (fun hq => ?_)) <;> simp (disch:=omega) only [go_sem,undef,H.cs, *,dec_t (show ((l.length:Nat):Int) < ((n / 2 + 1:Nat):Int) by omega)]))
    exact ⟨rfl,H.fr⟩
  have hp:prepQ n o l = match l.find? fun s => decide (s.cel.st = 3) with
  | some s => (1,s.cel.cmd,s.cel.att)
  | none =>
    if 0 ≤ bestN l 2 l.length then (2,(Sd.at l (bestN l 2 l.length)).cel.cmd,(Sd.at l (bestN l 2 l.length)).cel.att) else
    if bestN l 1 l.length < 0 then (4,Cmd.zero,Att.zero) else
    if thereS o l l.length = false ∧ n / 2 ≤ sameS o l l.length then (2,(Sd.at l (firstS o l l.length)).cel.cmd,(Sd.at l (firstS o l l.length)).cel.att) else
    (3,(Sd.at l (bestN l 1 l.length)).cel.cmd,(Sd.at l (bestN l 1 l.length)).cel.att):=if_neg hsm
  generalize prepQ n o l = q at *
  refine Q102go (by simp [Tryz.f33]) ?_
  have H:=Hq.refl m []
  simp (disch:=omega) only [go_sem,undef]
  refine newQ H fun b7 M f H => ?_
  simp (disch:=omega) only [go_sem,undef]
  refine newQ H fun b8 M f H => ?_
  simp (disch:=omega) only [go_sem,undef]
  refine callQ H (slow_s n (by omega) _) fun M f H => ?_
  simp (disch:=omega) only [go_sem,undef,dec_f (show ¬ ((l.length:Nat):Int) < ((n / 2 + 1:Nat):Int) by omega)]
  refine loopQ_intro (fun k E m' => ∃ (j:Nat),j ≤ l.length ∧ k = l.length - j ∧ (∀ i,i < j → (Sd.at l (i:Nat)).cel.st ≠ 3) ∧ E = [(0,.int .i64 (n:Nat)),(1,.int .i64 o),(2,.slice a l.length c),(7,.pointer (some ⟨b7,0,none⟩)),(8,.pointer (some ⟨b8,0,none⟩)),(9,.int .i64 (sameS o l j:Nat)),(10,.int .i64 (firstS o l j)),(11,.bool (thereS o l j)),(23,.slice a l.length c),(24,.int .i64 (l.length:Nat)),(25,.int .i64 (j:Nat))] ∧
    Hq m m' [] [cellA b8 (.cells Att.zero.cs.toArray T_api_Attr),cellA b7 (.cells Cmd.zero.cs.toArray T_api_Command)]) l.length rfl ⟨0,by omega,rfl,by simp,rfl,H⟩ ?_
  clear H f
  rintro k E M1 ⟨j,hj,rfl,h3,rfl,H⟩
  by_cases hlt:j < l.length
  · refine RdS.elK (hv.frame H.fr) hlt (by decide) fun bx o2 z hz hixz hEz => ?_
    have hz2:=Sd.at_some hz
    have hsl:=sameS_le o l j
    have hfl:=firstS_lt o l j
    have s1:sameS o l (j + 1) = sameS o l j + if goodS o z then 1 else 0:=by rw [sameS,hz2]
    have s2:firstS o l (j + 1) = if goodS o z ∧ firstS o l j < 0 then (j:Int) else firstS o l j:=by rw [firstS,hz2]
    have s3:thereS o l (j + 1) = if z.rep = o then true else thereS o l j:=by rw [thereS,hz2]
    by_cases hst:z.cel.st = 3
    · rw [find_at h3 hz hst] at hp
      simp (disch:=omega) only [go_sem,undef,dec_t (show ((j:Nat):Int) < (l.length:Nat) by omega),hixz,hEz.lda0 22 (by decide) (by decide)]
      refine newQ H fun b5 M f H => ?_
      simp (disch:=omega) only [go_sem,undef,H.cs]
      refine stwQ0 H rfl rfl fun M f H => ?_
      simp (disch:=omega) only [go_sem,undef,H.cs,dec_t hst]
      refine stwQ2 H rfl rfl fun M f H => ?_
      simp (disch:=omega) only [go_sem,undef,H.cs]
      refine stwQ1 H rfl rfl fun M f H => ?_
      simp (disch:=omega) only [go_sem,undef,H.cs]
      exact ⟨by rw [hp],H.fr⟩
    have h3':∀ i,i < j + 1 → (Sd.at l (i:Nat)).cel.st ≠ 3:=fun i hi => by
      rcases Nat.lt_or_eq_of_le (Nat.le_of_lt_succ hi) with h | h
      · exact h3 i h
      · subst h; rw [hz2]; exact hst
    by_cases hro:z.rep = o
    · rw [if_neg (fun h => h.1 hro)] at s1
      rw [if_neg (fun h => h.1.1 hro)] at s2
      rw [if_pos hro] at s3
      simp (disch:=omega) only [go_sem,undef,dec_t (show ((j:Nat):Int) < (l.length:Nat) by omega),hixz,hEz.lda0 22 (by decide) (by decide)]
      refine newQ H fun b5 M f H => ?_
      simp (disch:=omega) only [go_sem,undef,H.cs]
      refine stwQ0 H rfl rfl fun M f H => ?_
      simp (disch:=omega) only [go_sem,undef,H.cs,dec_f hst,dec_t hro]
      exact handN_intro (l.length - (j + 1)) (by omega) ⟨j + 1,by omega,rfl,h3',by rw [s1,s2,s3]; rfl,H.tail⟩
    · rw [if_neg hro] at s3
      by_cases hg:goodS o z
      · rw [if_pos hg] at s1
        by_cases hf:firstS o l j < 0
        · rw [if_pos ⟨hg,hf⟩] at s2
          simp (disch:=omega) only [go_sem,undef,dec_t (show ((j:Nat):Int) < (l.length:Nat) by omega),hixz,hEz.lda0 22 (by decide) (by decide)]
          refine newQ H fun b5 M f H => ?_
          simp (disch:=omega) only [go_sem,undef,H.cs]
          refine stwQ0 H rfl rfl fun M f H => ?_
          simp (disch:=omega) only [go_sem,undef,H.cs,dec_f hst,dec_f hro,dec_t hg.2.1,hg.2.2,dec_t hf]
          exact handN_intro (l.length - (j + 1)) (by omega) ⟨j + 1,by omega,rfl,h3',by rw [s1,s2,s3]; rfl,H.tail⟩
        · rw [if_neg (fun h => hf h.2)] at s2
          simp (disch:=omega) only [go_sem,undef,dec_t (show ((j:Nat):Int) < (l.length:Nat) by omega),hixz,hEz.lda0 22 (by decide) (by decide)]
          refine newQ H fun b5 M f H => ?_
          simp (disch:=omega) only [go_sem,undef,H.cs]
          refine stwQ0 H rfl rfl fun M f H => ?_
          simp (disch:=omega) only [go_sem,undef,H.cs,dec_f hst,dec_f hro,dec_t hg.2.1,hg.2.2,dec_f hf]
          exact handN_intro (l.length - (j + 1)) (by omega) ⟨j + 1,by omega,rfl,h3',by rw [s1,s2,s3]; rfl,H.tail⟩
      · rw [if_neg hg] at s1
        rw [if_neg (fun h => hg h.1)] at s2
        simp (disch:=omega) only [go_sem,undef,dec_t (show ((j:Nat):Int) < (l.length:Nat) by omega),hixz,hEz.lda0 22 (by decide) (by decide)]
        refine newQ H fun b5 M f H => ?_
        simp (disch:=omega) only [go_sem,undef,H.cs]
        refine stwQ0 H rfl rfl fun M f H => ?_
        by_cases h1:z.cel.st = 1
        · have hsf:z.cel.same = false:=by
            cases hsx:z.cel.same with
            | false => rfl
            | true => exact absurd ⟨hro,h1,hsx⟩ hg
          simp (disch:=omega) only [go_sem,undef,H.cs,dec_f hst,dec_f hro,dec_t h1,hsf]
          exact handN_intro (l.length - (j + 1)) (by omega) ⟨j + 1,by omega,rfl,h3',by rw [s1,s2,s3]; rfl,H.tail⟩
        · simp (disch:=omega) only [go_sem,undef,H.cs,dec_f hst,dec_f hro,dec_f h1]
          exact handN_intro (l.length - (j + 1)) (by omega) ⟨j + 1,by omega,rfl,h3',by rw [s1,s2,s3]; rfl,H.tail⟩
  · have e:j = l.length:=by omega
    subst e
    rw [find_none h3] at hp
    simp only at hp
    have hb2:=bestN_lt l 2 l.length
    have hb1:=bestN_lt l 1 l.length
    have hfl:=firstS_lt o l l.length
    have hsl:=sameS_le o l l.length
    simp (disch:=omega) only [go_sem,undef,dec_f (show ¬ ((l.length:Nat):Int) < (l.length:Nat) by omega)]
    refine callQ H (best_s (hv.frame H.fr) hl) fun M f H => ?_
    by_cases h2:0 ≤ bestN l 2 l.length
    · rw [if_pos h2] at hp
      refine sd_read hv h2 hb2.2 fun bx ox hix hth hl1 hl2 => ?_
      simp (disch:=omega) only [go_sem,undef,dec_t (show bestN l 2 l.length ≥ 0 from h2),hix,H.fr bx hth (by simp),hl1,hl2]
      refine stwQ1 H rfl rfl fun M f H => ?_
      simp (disch:=omega) only [go_sem,undef,H.cs,H.fr bx hth (by simp),hl2]
      refine stwQ0 H rfl rfl fun M f H => ?_
      simp (disch:=omega) only [go_sem,undef,H.cs]
      exact ⟨by rw [hp],H.fr⟩
    rw [if_neg h2] at hp
    simp (disch:=omega) only [go_sem,undef,dec_f (show ¬ bestN l 2 l.length ≥ 0 from h2)]
    refine callQ H (best_s (hv.frame H.fr) hl) fun M f H => ?_
    by_cases h1:bestN l 1 l.length < 0
    · rw [if_pos h1] at hp
      simp (disch:=omega) only [go_sem,undef,dec_t h1]
      refine stwQ1 H rfl rfl fun M f H => ?_
      simp (disch:=omega) only [go_sem,undef,H.cs]
      refine stwQ0 H rfl rfl fun M f H => ?_
      simp (disch:=omega) only [go_sem,undef,H.cs]
      exact ⟨by rw [hp],H.fr⟩
    rw [if_neg h1] at hp
    have etd:Int.tdiv ((n:Nat):Int) 2 = ((n / 2:Nat):Int):=rfl
    by_cases hc:thereS o l l.length = false ∧ n / 2 ≤ sameS o l l.length
    · rw [if_pos hc] at hp
      refine sd_read hv (hfl.2.2 (by omega)) hfl.2.1 fun bx ox hix hth hl1 hl2 => ?_
      simp (disch:=omega) only [go_sem,undef,dec_f h1,hc.1,etd,dec_t (show ((sameS o l l.length:Nat):Int) ≥ ((n / 2:Nat):Int) by omega),hix,H.fr bx hth (by simp),hl1,hl2]
      refine stwQ1 H rfl rfl fun M f H => ?_
      simp (disch:=omega) only [go_sem,undef,H.cs,H.fr bx hth (by simp),hl2]
      refine stwQ0 H rfl rfl fun M f H => ?_
      simp (disch:=omega) only [go_sem,undef,H.cs]
      exact ⟨by rw [hp],H.fr⟩
    · rw [if_neg hc] at hp
      refine sd_read hv (show 0 ≤ bestN l 1 l.length by omega) hb1.2 fun bx ox hix hth hl1 hl2 => ?_
      cases hth2:thereS o l l.length with
      | true =>
        simp (disch:=omega) only [go_sem,undef,dec_f h1,hth2,hix,H.fr bx hth (by simp),hl1,hl2]
        refine stwQ1 H rfl rfl fun M f H => ?_
        simp (disch:=omega) only [go_sem,undef,H.cs,H.fr bx hth (by simp),hl2]
        refine stwQ0 H rfl rfl fun M f H => ?_
        simp (disch:=omega) only [go_sem,undef,H.cs]
        exact ⟨by rw [hp],H.fr⟩
      | false =>
        have hns:¬ n / 2 ≤ sameS o l l.length:=fun h => hc ⟨hth2,h⟩
        simp (disch:=omega) only [go_sem,undef,dec_f h1,hth2,etd,dec_f (show ¬ ((sameS o l l.length:Nat):Int) ≥ ((n / 2:Nat):Int) by omega),hix,H.fr bx hth (by simp),hl1,hl2]
        refine stwQ1 H rfl rfl fun M f H => ?_
        simp (disch:=omega) only [go_sem,undef,H.cs,H.fr bx hth (by simp),hl2]
        refine stwQ0 H rfl rfl fun M f H => ?_
        simp (disch:=omega) only [go_sem,undef,H.cs]
        exact ⟨by rw [hp],H.fr⟩
end Go.Fw
namespace Go.Fw
open Go.Proofs
abbrev IdxL:=List ((Int × Int) × Noted)
def nv (l:IdxL):List ((Int × Int) × Value):=l.map fun p => (p.1,p.2.v)
def lkN (k:Int × Int):IdxL → Option Noted
  | [] => none
  | (a,c) :: r => if a = k then some c else lkN k r
def keysN (l:IdxL):List (Int × Int):=l.map (·.1)
def upN (k:Int × Int) (c:Noted) (l:IdxL):IdxL:=if k ∈ keysN l then l.map (fun p => if p.1 = k then (k,c) else p) else l ++ [(k,c)]
theorem keys_nv (l:IdxL):keysOf (nv l) = keysN l:=by simp [keysOf,nv,keysN,List.map_map,Function.comp_def]
theorem upd_nv (k:Int × Int) (c:Noted) (l:IdxL):updM k c.v (nv l) = nv (upN k c l):=by
  unfold updM upN
  rw [keys_nv]
  split
  · simp only [nv,List.map_map]
    refine List.map_congr_left fun p _ => ?_
    simp only [Function.comp]
    split <;> rfl
  · simp [nv]
theorem del_nv (k:Int × Int) (l:IdxL):delM k (nv l) = nv (l.filter fun p => p.1 ≠ k):=by
  unfold delM nv
  rw [List.filter_map]; rfl
theorem lkN_of {k:Int × Int} {c:Noted}:∀ {l:IdxL},(keysN l).Nodup → (k,c) ∈ l → lkN k l = some c
  | (a,d) :: r,hn,h => by
    simp only [keysN,List.map_cons,List.nodup_cons] at hn
    simp only [lkN]
    rcases List.mem_cons.1 h with e | h
    · cases e; simp
    · rw [if_neg]
      · exact lkN_of hn.2 h
      · rintro rfl; exact hn.1 (List.mem_map.2 ⟨_,h,rfl⟩)
/-- a log: its struct at lb, its map at r -/
structure IdxIs (m:Mem) (lb r:Nat) (cut:Dp) (l:IdxL):Prop where
  box:m lb = some (.cells (Value.map (some r) :: dv cut).toArray T_interf_Index (0,0))
  map:MapIs pv m r (nv l)
theorem IdxIs.nd {m:Mem} {lb r:Nat} {cut:Dp} {l:IdxL} (h:IdxIs m lb r cut l):(keysN l).Nodup:=by
  have:=h.map.nd; rwa [keys_nv] at this
theorem IdxIs.frame {m m':Mem} {lb r:Nat} {cut:Dp} {l:IdxL} {S:List Nat} (h:IdxIs m lb r cut l) (f:Fr m m' S) (h1:lb ∉ S) (h2:r ∉ S):IdxIs m' lb r cut l:=⟨f.get h.box h1,h.map.frame f h2⟩
theorem IdxIs.frame0 {m m':Mem} {lb r:Nat} {cut:Dp} {l:IdxL} (h:IdxIs m lb r cut l) (f:Fr m m' []):IdxIs m' lb r cut l:=h.frame f (by simp) (by simp)
theorem IdxIs.ne {m:Mem} {lb r:Nat} {cut:Dp} {l:IdxL} (h:IdxIs m lb r cut l):lb ≠ r:=by
  obtain ⟨es,c,hm,_⟩:=h.map
  rintro rfl
  rw [h.box] at hm; cases hm
abbrev goneX (cut:Dp) (k:Int × Int):Prop:=k.2 ≤ cut.g k.1.toNat
theorem inew_s (m:Mem):MC Tryz.prog n_interf_New [] m fun v m' => (∃ lb r,v = lp lb ∧ IdxIs m' lb r Dp.zero [] ∧ m lb = none ∧ m r = none) ∧ Fr m m' []:=by
  refine Q52go (by simp [Tryz.f33]) ?_
  have H:=Hp.refl m []
  simp (disch:=omega) only [go_sem,undef]
  refine new_H H fun r M _ _ H => ?_
  simp (disch:=omega) only [go_sem,undef,H.hs]
  refine new_H H fun lb M _ _ H => ?_
  simp (disch:=omega) only [go_sem,undef,H.hs]
  have hlb:=H.nw0.1
  have hr:=H.nw1.1
  exact ⟨⟨lb,r,rfl,⟨H.hs.1,by
    have h2:=H.hs.2.1
    exact ⟨#[],0,h2,rfl,by simp [keysOf,nv],by simp,by simp⟩⟩,hlb,hr⟩,H.fr⟩
def mayN (cut:Dp) (k:Int × Int) (c:Cmd) (s:Int):Prop:=rightI k ∧ ¬ k.2 ≤ cut.g k.1.toNat ∧ c.right ∧ 0 ≤ s ∧ s ≤ 1099511627776
instance (cut:Dp) (k:Int × Int) (c:Cmd) (s:Int):Decidable (mayN cut k c s):=by unfold mayN; exact inferInstance
theorem note_s {m:Mem} {lb r:Nat} {cut:Dp} {l:IdxL} (h:IdxIs m lb r cut l) (k:Int × Int) (c:Cmd) (s:Int) :
    MC Tryz.prog n_interf_Index_Note [lp lb,pv k,c.v,.int .i64 s] m fun v m' => (v = .bool (decide (mayN cut k c s)) ∧ IdxIs m' lb r cut (if mayN cut k c s then upN k ⟨c,s⟩ l else l)) ∧ Fr m m' [r]:=by
  have hne:=h.ne
  have hx:∀ s ∈ [r],m s ≠ none:=fun s hs => by simp at hs; subst hs; exact h.map.there
  refine Q88go (by simp [Tryz.f33]) ?_
  have H:=Hp.refl m []
  simp (disch:=omega) only [go_sem,undef]
  by_cases hri:rightI k
  rotate_left
  · have hm:¬ mayN cut k c s:=fun h => hri h.1
    repeat' (first
      | (refine new_H H fun _ _ _ _ H => ?_; simp (disch:=omega) only [go_sem,undef,H.hs, *,decide_eq_false hri])
      | (refine call_H H (inst_Right_s _ _) fun _ _ H => ?_; simp (disch:=omega) only [go_sem,undef,H.hs, *,decide_eq_false hri])
      | (refine gQ_split (fun hq => ?_) (fun hq => ?_) <;> (try simp only [Bool.not_true,Bool.not_false] at hq) <;> simp (disch:=omega) only [go_sem,undef,H.hs, *,decide_eq_false hri])
      | (refine condB_split (fun hq => ?_) (fun hq => ?_) <;> simp (disch:=omega) only [go_sem,undef,H.hs, *,decide_eq_false hri])
      | (refine wr0 H fun _ _ H => ?_; simp (disch:=omega) only [go_sem,undef,H.hs, *,decide_eq_false hri])
      | (refine wr1 H fun _ _ H => ?_; simp (disch:=omega) only [go_sem,undef,H.hs, *,decide_eq_false hri])
      | (refine wr2 H fun _ _ H => ?_; simp (disch:=omega) only [go_sem,undef,H.hs, *,decide_eq_false hri])
      | (refine wr3 H fun _ _ H => ?_; simp (disch:=omega) only [go_sem,undef,H.hs, *,decide_eq_false hri])
      | (refine stw0 H rfl rfl fun _ _ H => ?_; simp (disch:=omega) only [go_sem,undef,H.hs, *,decide_eq_false hri])
      | (refine stw1 H rfl rfl fun _ _ H => ?_; simp (disch:=omega) only [go_sem,undef,H.hs, *,decide_eq_false hri]))
    refine ⟨⟨by rw [decide_eq_false hm], ?_⟩,H.fr.sub (by simp)⟩
    rw [if_neg hm]
    exact h.frame0 H.fr
  have hk0:=hri.1
  have hk1:=hri.2.1
  repeat' (first
    | (refine new_H H fun _ _ _ _ H => ?_; simp (disch:=omega) only [go_sem,undef,H.hs, *,H.fr.get0 h.box,decide_eq_true hri])
    | (refine call_H H (inst_Right_s _ _) fun _ _ H => ?_; simp (disch:=omega) only [go_sem,undef,H.hs, *,H.fr.get0 h.box,decide_eq_true hri])
    | (refine call_H H (cmd_Right_s _ _) fun _ _ H => ?_; simp (disch:=omega) only [go_sem,undef,H.hs, *,H.fr.get0 h.box,decide_eq_true hri])
    | (refine gQ_split (fun hq => ?_) (fun hq => ?_) <;> (try simp only [Bool.not_true,Bool.not_false] at hq) <;> simp (disch:=omega) only [go_sem,undef,H.hs, *,H.fr.get0 h.box,decide_eq_true hri])
    | (refine condB_split (fun hq => ?_) (fun hq => ?_) <;> simp (disch:=omega) only [go_sem,undef,H.hs, *,H.fr.get0 h.box,decide_eq_true hri])
    | (refine wr0 H fun _ _ H => ?_; simp (disch:=omega) only [go_sem,undef,H.hs, *,H.fr.get0 h.box,decide_eq_true hri])
    | (refine wr1 H fun _ _ H => ?_; simp (disch:=omega) only [go_sem,undef,H.hs, *,H.fr.get0 h.box,decide_eq_true hri])
    | (refine wr2 H fun _ _ H => ?_; simp (disch:=omega) only [go_sem,undef,H.hs, *,H.fr.get0 h.box,decide_eq_true hri])
    | (refine wr3 H fun _ _ H => ?_; simp (disch:=omega) only [go_sem,undef,H.hs, *,H.fr.get0 h.box,decide_eq_true hri])
    | (refine stw0 H rfl rfl fun _ _ H => ?_; simp (disch:=omega) only [go_sem,undef,H.hs, *,H.fr.get0 h.box,decide_eq_true hri])
    | (refine stw1 H rfl rfl fun _ _ H => ?_; simp (disch:=omega) only [go_sem,undef,H.hs, *,H.fr.get0 h.box,decide_eq_true hri]))
  all_goals (try simp only [decide_eq_true_eq,decide_eq_false_iff_not] at *)
  all_goals first
    | (have hm:mayN cut k c s:=⟨hri,by omega,by assumption,by omega,by omega⟩
       refine mup_own (k:=k) pv_enc (h.map.frame H.fr (by simp)) fun N hN f _ => ?_
       simp (disch:=omega) only [go_sem]
       rw [show Value.agg _ = (Noted.mk c s).v from rfl,upd_nv] at hN
       refine ⟨⟨by rw [decide_eq_true hm], ?_⟩,(H.fr.sub (by simp)).transS f⟩
       rw [if_pos hm]
       exact ⟨f.get (H.fr.get0 h.box) (by simpa using hne),hN⟩)
    | (have hm:¬ mayN cut k c s:=by
         intro hmm
         obtain ⟨_,h2,h3,h4,h5⟩:=hmm
         first | omega | contradiction
       refine ⟨⟨by rw [decide_eq_false hm], ?_⟩,H.fr.sub (by simp)⟩
       rw [if_neg hm]
       exact h.frame0 H.fr)
theorem prune_s {m:Mem} {lb r:Nat} {cut:Dp} {l:IdxL} (h:IdxIs m lb r cut l) (hr:∀ k ∈ keysN l,rightI k) (upto:Dp) :
    MC Tryz.prog n_interf_Index_Prune [lp lb,upto.v] m fun v m' => (v = .tuple #[] ∧ IdxIs m' lb r (trimD cut upto) (l.filter fun p => ¬ goneX (trimD cut upto) p.1)) ∧ Fr m m' [lb,r]:=by
  have hne:=h.ne
  have hx:∀ s ∈ [lb,r],m s ≠ none:=fun s hs => by
    simp at hs; rcases hs with rfl | rfl
    · rw [h.box]; exact Option.some_ne_none _
    · exact h.map.there
  refine Q53go (by simp [Tryz.f33]) ?_
  have H:=Hp.refl m [lb,r] hx
  simp (disch:=omega) only [go_sem,undef]
  refine new_H H fun b M hb f H => ?_
  have hL:=h.frame0 f
  simp (disch:=omega) only [go_sem,undef,H.hs]
  refine loopQ_intro (fun n E m' => ∃ (k:Nat) (c:Dp),k ≤ 7 ∧ n = 7 - k ∧ E = [(0,lp lb),(7,upto.v),(8,.int .i64 k)] ∧ (∀ j,j < k → c.g j = (trimD cut upto).g j) ∧ (∀ j,k ≤ j → c.g j = cut.g j) ∧ IdxIs m' lb r c l ∧ Fr m m' [lb,r]) 7 rfl ⟨0,cut,by omega,rfl,rfl,by simp,by simp,hL,H.fr⟩ ?_
  clear H hL f hb
  rintro n E m' ⟨k,c,hk,rfl,rfl,h1,h2,hL,f⟩
  simp (disch:=omega) only [go_sem,undef]
  refine condB_dec (fun h => ?_) (fun h => ?_)
  · have hk7:k < 7:=by omega
    have H:=Hp.refl m' [lb] (by simp [hL.box])
    simp (disch:=omega) only [go_sem,undef,hL.box]
    refine wrS H (by simp) fun M hM f' H => ?_
    simp (disch:=omega) only [go_sem,undef]
    refine handN_intro (7 - (k + 1)) (by omega) ⟨k + 1,_,by omega,rfl,rfl,fun j hj => ?_,fun j hj => ?_,⟨hM,hL.map.frame f' (by simpa using hne.symm)⟩,f.trans f' (by simp)⟩
    · rw [Dp.up_g]
      by_cases e:j = k
      · subst e; simp [hk7,trimD_g,h2 j (Nat.le_refl _)]
      · rw [if_neg (fun h => e h.1)]; exact h1 j (by omega)
    · rw [Dp.up_g,if_neg (by omega)]; exact h2 j (by omega)
  · have hc:c = trimD cut upto:=Dp.ext_g fun j hj => h1 j (by omega)
    subst hc
    clear h1 h2
    simp (disch:=omega) only [go_sem,undef,hL.box]
    refine rng_own hL.map fun it N hit hI f1 => ?_
    have hbox:=f1.get0 hL.box
    have f2:=f.trans0 f1
    have hitm:m it = none:=by
      cases hm:m it with
      | none => rfl
      | some o => exact absurd hit (f.some (by rw [hm]; exact Option.some_ne_none _) (by
          intro hs; simp at hs
          rcases hs with rfl | rfl
          · rw [hL.box] at hit; cases hit
          · exact hL.map.there hit))
    have hitl:it ≠ lb:=by rintro rfl; rw [hL.box] at hit; cases hit
    have hitr:it ≠ r:=by rintro rfl; exact hL.map.there hit
    clear f f1 hL hit
    simp (disch:=omega) only [go_sem,undef]
    generalize hcut:trimD cut upto = ct at *
    refine loopQ_intro (fun n E m' => ∃ (l':IdxL) (done D:List (Int × Int)),n = l'.length - done.length ∧ E = [(0,lp lb),(32,.pointer (some ⟨it,0,none⟩))] ∧ IterIs pv m' it r (nv l') done ∧ m' lb = some (.cells (Value.map (some r) :: dv ct).toArray T_interf_Index (0,0)) ∧
      l' = l.filter (fun p => p.1 ∉ D) ∧ (∀ x ∈ D,goneX ct x) ∧ (∀ x ∈ done,¬ goneX ct x) ∧ Fr m m' [lb,r]) l.length rfl ⟨l,[],[],by simp,rfl,hI,hbox,(List.filter_eq_self.2 (by simp)).symm,by simp,by simp,f2⟩ ?_
    clear hI hbox f2
    rintro n E m' ⟨l',done,D,rfl,rfl,hI,hbox,hl',hD,hdone,f⟩
    have hle:done.length ≤ l'.length:=by
      obtain ⟨es,c,seen,_,hh,_,hd,hsub,_⟩:=hI
      rw [keys_nv] at hsub
      have:=hd.length_le_of_subset hsub
      simpa [keysN] using this
    simp (disch:=omega) only [go_sem,undef]
    refine nxt_own pv_enc hI (fun hperm => ?_) (fun k w N hkw hk hI2 hent f1 hnone => ?_)
    · simp (disch:=omega) only [go_sem,undef]
      refine ⟨⟨rfl,hbox, ?_⟩,f⟩
      rw [keys_nv] at hperm
      have:l.filter (fun p => ¬ goneX ct p.1) = l':=by
        rw [hl']
        refine List.filter_congr fun p hp => ?_
        by_cases hx:p.1 ∈ D
        · rw [decide_eq_false (fun hn => hn (hD _ hx)),decide_eq_false (fun hn => hn hx)]
        · have hin:p.1 ∈ keysN l':=by rw [hl']; exact List.mem_map.2 ⟨p,List.mem_filter.2 ⟨hp,by simpa using hx⟩,rfl⟩
          have:=hdone _ (hperm.mem_iff.1 hin)
          rw [decide_eq_true this,decide_eq_true hx]
      rw [this]
      exact hI.map
    · have hI2l:(done ++ [k]).length ≤ l'.length:=by
        obtain ⟨es,c,seen,_,hh,_,hd,hsub,_⟩:=hI2
        rw [keys_nv] at hsub
        have:=hd.length_le_of_subset hsub
        simpa [keysN] using this
      simp only [List.length_append,List.length_cons,List.length_nil] at hI2l
      have hboxN:=f1.get hbox (by simpa using hitl.symm)
      have H:=Hp.refl N []
      simp (disch:=omega) only [go_sem,undef,hent]
      refine new_H H fun b M hb f2 H => ?_
      simp (disch:=omega) only [go_sem,undef,H.hs]
      refine stw0 H rfl rfl fun M f3 H => ?_
      simp (disch:=omega) only [go_sem,undef,H.hs]
      have hI3:=hI2.frame H.fr (by simp) (by simp)
      have hkr:rightI k:=by
        refine hr k ?_
        have hk2:k ∈ keysN l':=by rw [← keys_nv]; exact List.mem_map.2 ⟨_,hkw,rfl⟩
        rw [hl'] at hk2
        obtain ⟨p,hp,e⟩:=List.mem_map.1 hk2
        exact List.mem_map.2 ⟨p,(List.mem_filter.1 hp).1,e⟩
      have hk0:=hkr.1
      have hk1:=hkr.2.1
      have hI4:=hI2.frame H.fr (by simp) (by simp)
      have fall:=f1.trans0 H.fr
      by_cases hg:goneX ct k
      · simp (disch:=omega) only [go_sem,undef,H.hs,H.fr.get0 hboxN,dec_t hg]
        refine dlt_iter (k:=k) pv_enc hI4 fun M2 hI5 f5 _ => ?_
        rw [del_nv] at hI5
        have hdn:(done ++ [k]).filter (· ≠ k) = done:=by
          rw [List.filter_append]
          simp only [ne_eq,decide_not,List.filter_cons,decide_true,Bool.not_true,Bool.false_eq_true,if_false,List.filter_nil,List.append_nil]
          refine List.filter_eq_self.2 fun x hx => ?_
          simp only [Bool.not_eq_true',decide_eq_false_iff_not]
          rintro rfl; exact hk hx
        rw [hdn] at hI5
        have hlen:(l'.filter fun p => p.1 ≠ k).length < l'.length:=by
          obtain ⟨p,hp,e⟩:=List.mem_map.1 hkw
          exact List.length_filter_lt_length_iff_exists.2 ⟨p,hp,by simp only [Prod.mk.injEq] at e; simp [e.1]⟩
        have hle2:done.length ≤ (l'.filter fun p => p.1 ≠ k).length:=by
          obtain ⟨es,c,seen,_,hh,_,hd,hsub,_⟩:=hI5
          rw [keys_nv] at hsub
          have:=hd.length_le_of_subset hsub
          simpa [keysN] using this
        simp (disch:=omega) only [go_sem,undef]
        refine handN_intro ((l'.filter fun p => p.1 ≠ k).length - done.length) (by omega) ⟨_,done,k :: D,rfl,rfl,hI5,f5.get (H.fr.get0 hboxN) (by simpa using hne), ?_, ?_,hdone, ?_⟩
        · rw [hl',List.filter_filter]
          refine List.filter_congr fun p _ => ?_
          simp
        · intro x hx
          rcases List.mem_cons.1 hx with rfl | hx
          · exact hg
          · exact hD x hx
        · exact (f.trans ((fall.sub (T:=[it,r]) (by simp)).trans f5 (by simp)) (fun x hx hx0 => by
            simp at hx; rcases hx with rfl | rfl
            · exact absurd hitm hx0
            · simp))
      · simp (disch:=omega) only [go_sem,undef,H.hs,H.fr.get0 hboxN,dec_f hg]
        refine handN_intro (l'.length - (done.length + 1)) (by omega) ⟨l',done ++ [k],D,by simp,rfl,hI4,H.fr.get0 hboxN,hl',hD, ?_, ?_⟩
        · intro x hx
          rcases List.mem_append.1 hx with hx | hx
          · exact hdone x hx
          · simp only [List.mem_singleton] at hx; subst hx; exact hg
        · exact f.trans fall (fun x hx hx0 => by simp at hx; subst hx; exact absurd hitm hx0)
end Go.Fw
namespace Go.Fw
open Go.Proofs
/-- on what a command must depend: one instance more -/
def stepA (i:Int × Int) (c:Cmd) (a:Att) (k:Int × Int) (n:Noted):Att :=
  if (k.1 = i.1 ∧ i.2 ≤ k.2) ∨ ¬ clashP n.cmd c then a else ⟨max a.seq (n.seq + 1),Dp.up a.deps k.1.toNat (max (a.deps.g k.1.toNat) k.2)⟩
def stepK (l:IdxL) (i:Int × Int) (c:Cmd) (a:Att) (k:Int × Int):Att:=stepA i c a k ((lkN k l).getD Noted.zero)
def attr0 (l:IdxL) (i:Int × Int) (c:Cmd):Att:=(keysN l).foldl (stepK l i c) Att.zero
def attrD (cut:Dp) (i:Int × Int) (d:Dp):Dp:=fun r => if (r.val:Int) ≠ i.1 then max (d r) (cut r) else if rightI i then max (d r) (i.2 - 1) else d r
def attrF (cut:Dp) (l:IdxL) (i:Int × Int) (c:Cmd):Att:=⟨(attr0 l i c).seq,attrD cut i (attr0 l i c).deps⟩
structure IdxOk (l:IdxL):Prop where
  ok:∀ p ∈ l,rightI p.1 ∧ p.2.cmd.right ∧ 0 ≤ p.2.seq ∧ p.2.seq ≤ 1099511627776
theorem attrD_g (cut:Dp) (i:Int × Int) (d:Dp) (r:Nat) (h:r < 7):(attrD cut i d).g r = if (r:Int) ≠ i.1 then max (d.g r) (cut.g r) else if rightI i then max (d.g r) (i.2 - 1) else d.g r:=by simp [Dp.g,h,attrD]
theorem stepA_comm (i:Int × Int) (c:Cmd) (a:Att) (k k':Int × Int) (n n':Noted) (hk:0 ≤ k.1 ∧ k.1 < 7) (hk':0 ≤ k'.1 ∧ k'.1 < 7):stepA i c (stepA i c a k n) k' n' = stepA i c (stepA i c a k' n') k n:=by
  unfold stepA
  by_cases h1:(k.1 = i.1 ∧ i.2 ≤ k.2) ∨ ¬ clashP n.cmd c <;> by_cases h2:(k'.1 = i.1 ∧ i.2 ≤ k'.2) ∨ ¬ clashP n'.cmd c
  · simp only [if_pos h1,if_pos h2]
  · simp only [if_pos h1,if_neg h2]
  · simp only [if_neg h1,if_pos h2]
  · simp only [if_neg h1,if_neg h2]
    congr 1
    · omega
    · refine Dp.ext_g fun j hj => ?_
      simp only [Dp.up_g]
      by_cases e1:j = k.1.toNat <;> by_cases e2:j = k'.1.toNat <;> simp [e1,e2,hj] <;> (try split) <;> (try simp_all) <;> (try omega)
theorem cmd_key {c:Cmd} (h:c.right):c.key.size ≤ 1000:=by
  rcases h with rfl | ⟨_,_,_,_,_,_,_,h,_⟩
  · decide
  · omega
theorem nv_mem {l:IdxL} (hnd:(keysN l).Nodup) (ho:IdxOk l) {k:Int × Int} {w:Value} (h:(k,w) ∈ nv l):∃ n:Noted,w = n.v ∧ lkN k l = some n ∧ rightI k ∧ n.cmd.right ∧ 0 ≤ n.seq ∧ n.seq ≤ 1099511627776:=by
  obtain ⟨p,hp,e⟩:=List.mem_map.1 h
  simp only [Prod.mk.injEq] at e
  obtain ⟨e1,e2⟩:=e
  subst e1 e2
  exact ⟨p.2,rfl,lkN_of hnd hp,ho.ok p hp⟩
theorem foldK_perm {l:IdxL} (ho:IdxOk l) (i:Int × Int) (c:Cmd) {done:List (Int × Int)} (h:(keysN l).Perm done):done.foldl (stepK l i c) Att.zero = attr0 l i c:=by
  have hr:∀ x ∈ keysN l,0 ≤ x.1 ∧ x.1 < 7:=fun x hx => by
    obtain ⟨p,hp,e⟩:=List.mem_map.1 hx
    have:=(ho.ok p hp).1
    rw [← e]; exact ⟨this.1,this.2.1⟩
  exact (h.foldl_eq' (fun x hx y hy z => stepA_comm i c z x y _ _ (hr x hx) (hr y hy)) Att.zero).symm
set_option maxHeartbeats 4000000 in
theorem attr_s {m:Mem} {lb r:Nat} {cut:Dp} {l:IdxL} (h:IdxIs m lb r cut l) (ho:IdxOk l) (i:Int × Int) (c:Cmd) (hc:c.key.size ≤ 1000) :
    MC Tryz.prog n_interf_Index_Attr [lp lb,pv i,c.v] m fun v m' => v = (attrF cut l i c).v ∧ Fr m m' []:=by
  have hnd:=h.nd
  refine Q29go (by simp [Tryz.f33]) ?_
  have H:=Hp.refl m []
  simp (disch:=omega) only [go_sem,undef]
  refine new_H H fun b4 M _ _ H => ?_
  simp (disch:=omega) only [go_sem,undef,H.hs]
  refine new_H H fun b5 M _ _ H => ?_
  simp (disch:=omega) only [go_sem,undef,H.hs]
  refine new_H H fun b6 M _ _ H => ?_
  simp (disch:=omega) only [go_sem,undef,H.hs]
  refine new_H H fun b7 M _ _ H => ?_
  simp (disch:=omega) only [go_sem,undef,H.hs,H.fr.get0 h.box]
  refine rng_H H (h.map.frame H.fr (by simp)) fun it N hit hI f1 H hit0 hitS hitr => ?_
  simp (disch:=omega) only [go_sem,undef]
  refine loopQ_intro (fun n E m' => ∃ (done:List (Int × Int)),n = l.length - done.length ∧ E = [(0,lp lb),(4,.pointer (some ⟨b4,0,none⟩)),(5,.pointer (some ⟨b5,0,none⟩)),(6,.pointer (some ⟨b6,0,none⟩)),(7,.pointer (some ⟨b7,0,none⟩)),(15,.pointer (some ⟨it,0,none⟩))] ∧ IterIs pv m' it r (nv l) done ∧
    Hp m m' [it] [(b7,.cells (done.foldl (stepK l i c) Att.zero).cs.toArray T_api_Attr),(b6,.cells Att.zero.cs.toArray T_api_Attr),(b5,.cells c.cs.toArray T_api_Command),(b4,.cells (pc i).toArray T_api_Inst)]) l.length rfl ⟨[],rfl,rfl,hI,H⟩ ?_
  clear H hI f1 hit
  rintro n E m' ⟨done,rfl,rfl,hI,H⟩
  simp (disch:=omega) only [go_sem,undef]
  refine nxt_H pv_enc hI H (by simp) (fun hperm => ?_) (fun k w N hkw hk hle hI2 hent f2 H => ?_)
  · rw [keys_nv] at hperm
    rw [foldK_perm ho i c hperm] at H
    have hb:m' lb = some (.cells (Value.map (some r) :: dv cut).toArray T_interf_Index (0,0)):=H.fr.get h.box (by
      simp only [List.mem_singleton]
      rintro rfl
      rw [h.box] at hit0; cases hit0)
    have haf:attrF cut l i c = ⟨(attr0 l i c).seq,attrD cut i (attr0 l i c).deps⟩:=rfl
    generalize attrF cut l i c = af at *
    generalize attr0 l i c = a0 at *
    clear hI hperm
    simp (disch:=omega) only [go_sem,undef]
    refine loopQ_intro (fun n E m'' => ∃ (k:Nat) (d:Dp),k ≤ 7 ∧ n = 7 - k ∧ E = [(0,lp lb),(4,.pointer (some ⟨b4,0,none⟩)),(6,.pointer (some ⟨b6,0,none⟩)),(7,.pointer (some ⟨b7,0,none⟩)),(59,.int .i64 (k:Nat))] ∧ (∀ j,j < k → d.g j = (attrD cut i a0.deps).g j) ∧ (∀ j,k ≤ j → d.g j = a0.deps.g j) ∧
      Hp m m'' [it] [(b7,.cells (Att.mk a0.seq d).cs.toArray T_api_Attr),(b6,.cells Att.zero.cs.toArray T_api_Attr),(b5,.cells c.cs.toArray T_api_Command),(b4,.cells (pc i).toArray T_api_Inst)]) 7 rfl ⟨0,a0.deps,by omega,rfl,rfl,by simp,by simp,H⟩ ?_
    clear H hb
    rintro n E m1 ⟨k,d,hk,rfl,rfl,h1,h2,H⟩
    have hb:m1 lb = some (.cells (Value.map (some r) :: dv cut).toArray T_interf_Index (0,0)):=H.fr.get h.box (by
      simp only [List.mem_singleton]
      rintro rfl
      rw [h.box] at hit0; cases hit0)
    by_cases hk7:k < 7
    · have hdg:=h2 k (Nat.le_refl _)
      have hag:=attrD_g cut i a0.deps k hk7
      by_cases hki:((k:Nat):Int) ≠ i.1
      · rw [if_pos hki] at hag
        simp (disch:=omega) only [go_sem,undef,dec_t (show ((k:Nat):Int) < 7 by omega),H.hs,hb,dec_t hki]
        refine wr0 H fun M f H => ?_
        simp (disch:=omega) only [go_sem,undef]
        refine handN_intro (7 - (k + 1)) (by omega) ⟨k + 1,_,by omega,rfl,rfl,fun j hj => ?_,fun j hj => ?_,H⟩
        · rw [Dp.up_g]
          by_cases e:j = k
          · subst e; rw [if_pos ⟨rfl,hk7⟩,hag,hdg]
          · rw [if_neg (fun h => e h.1)]; exact h1 j (by omega)
        · rw [Dp.up_g,if_neg (by omega)]; exact h2 j (by omega)
      · rw [if_neg hki] at hag
        by_cases hri:rightI i
        · rw [if_pos hri] at hag
          have hi1:=hri.2.2.1
          have hi2:=hri.2.2.2
          simp (disch:=omega) only [go_sem,undef,dec_t (show ((k:Nat):Int) < 7 by omega),H.hs,hb,dec_f hki]
          refine call_H H (inst_Right_s i _) fun M f H => ?_
          simp (disch:=omega) only [go_sem,undef,dec_t hri,H.hs]
          refine wr0 H fun M f H => ?_
          simp (disch:=omega) only [go_sem,undef]
          refine handN_intro (7 - (k + 1)) (by omega) ⟨k + 1,_,by omega,rfl,rfl,fun j hj => ?_,fun j hj => ?_,H⟩
          · rw [Dp.up_g]
            by_cases e:j = k
            · subst e; rw [if_pos ⟨rfl,hk7⟩,hag,hdg]
            · rw [if_neg (fun h => e h.1)]; exact h1 j (by omega)
          · rw [Dp.up_g,if_neg (by omega)]; exact h2 j (by omega)
        · rw [if_neg hri] at hag
          simp (disch:=omega) only [go_sem,undef,dec_t (show ((k:Nat):Int) < 7 by omega),H.hs,hb,dec_f hki]
          refine call_H H (inst_Right_s i _) fun M f H => ?_
          simp (disch:=omega) only [go_sem,undef,dec_f hri,H.hs]
          refine handN_intro (7 - (k + 1)) (by omega) ⟨k + 1,d,by omega,rfl,rfl,fun j hj => ?_,fun j hj => h2 j (by omega),H⟩
          by_cases e:j = k
          · subst e; rw [hag,hdg]
          · exact h1 j (by omega)
    · have e:d = attrD cut i a0.deps:=Dp.ext_g fun j hj => h1 j (by omega)
      subst e
      simp (disch:=omega) only [go_sem,undef,dec_f (show ¬ ((k:Nat):Int) < 7 by omega),H.hs]
      refine stw1 H rfl rfl fun M _ H => ?_
      simp (disch:=omega) only [go_sem,undef,H.hs]
      exact ⟨by rw [haf],H.fr.less (by simp [hit0])⟩
  · refine Exists.elim (nv_mem hnd ho hkw) fun n hn => ?_
    have ew:=hn.1
    have hlk:=hn.2.1
    have hkr:=hn.2.2.1
    have hnc:=cmd_key hn.2.2.2.1
    have hn1:=hn.2.2.2.2.1
    have hn2:=hn.2.2.2.2.2
    subst ew
    have hk0:=hkr.1
    have hk1:=hkr.2.1
    have hfold:(done ++ [k]).foldl (stepK l i c) Att.zero = stepA i c (done.foldl (stepK l i c) Att.zero) k n:=by
      rw [List.foldl_append]; simp [stepK,hlk]
    simp only [List.length_append,List.length_cons,List.length_nil,nv,List.length_map] at hle
    have hr7:b7 ≠ r:=fun e => h.map.there (by rw [← e]; exact H.nw0.1)
    have hit7:b7 ≠ it:=fun e => H.nw0.2 (by simp [e])
    generalize done.foldl (stepK l i c) Att.zero = acc at *
    simp (disch:=omega) only [go_sem,undef,hent]
    refine new_H H fun b8 M1 hb8 f3 H => ?_
    simp (disch:=omega) only [go_sem,undef,H.hs]
    refine new_H H fun b9 M2 hb9 f4 H => ?_
    simp (disch:=omega) only [go_sem,undef,H.hs]
    refine stw1 H rfl rfl fun M3 f5 H => ?_
    simp (disch:=omega) only [go_sem,undef,H.hs]
    refine stw0 H rfl rfl fun M4 f6 H => ?_
    have hb9N:N b9 = none:=Classical.byContradiction fun hx => f3.some hx (by simp) hb9
    have g:Fr N M4 []:=((((f3.trans0 f4).sub (T:=[b8,b9]) (by simp)).trans f5 (by simp)).trans f6 (by simp)).less (by simp [hb8,hb9N])
    by_cases hA:k.1 = i.1 ∧ i.2 ≤ k.2
    · have hst:stepA i c acc k n = acc:=if_pos (.inl hA)
      simp (disch:=omega) only [go_sem,undef,H.hs,dec_t hA.1,dec_t (show k.2 ≥ i.2 from hA.2)]
      exact handN_intro (l.length - (done.length + 1)) (by omega) ⟨done ++ [k],by simp,rfl,hI2.frame g (by simp) (by simp),by rw [hfold,hst]; exact H.drop1.drop1⟩
    · by_cases hC:clashP n.cmd c
      · have hst:stepA i c acc k n = ⟨max acc.seq (n.seq + 1),Dp.up acc.deps k.1.toNat (max (acc.deps.g k.1.toNat) k.2)⟩:=if_neg (fun h => h.elim hA fun h => h hC)
        by_cases hA1:k.1 = i.1
        · simp (disch:=omega) only [go_sem,undef,H.hs,dec_t hA1,dec_f (show ¬ k.2 ≥ i.2 from fun h => hA ⟨hA1,h⟩)]
          refine call_H H (clash_s n.cmd c hnc hc _) fun M5 f7 H => ?_
          simp (disch:=omega) only [go_sem,undef,dec_t hC,H.hs]
          refine wr2 H fun M6 f8 H => ?_
          simp (disch:=omega) only [go_sem,undef,H.hs]
          refine wr2 H fun M7 f9 H => ?_
          simp (disch:=omega) only [go_sem,undef]
          exact handN_intro (l.length - (done.length + 1)) (by omega) ⟨done ++ [k],by simp,rfl,hI2.frame ((((g.trans0 f7).sub (T:=[b7]) (by simp)).transS f8).transS f9) (by simpa using hit7.symm) (by simpa using hr7.symm),by rw [hfold,hst]; exact H.drop1.drop1⟩
        · simp (disch:=omega) only [go_sem,undef,H.hs,dec_f hA1]
          refine call_H H (clash_s n.cmd c hnc hc _) fun M5 f7 H => ?_
          simp (disch:=omega) only [go_sem,undef,dec_t hC,H.hs]
          refine wr2 H fun M6 f8 H => ?_
          simp (disch:=omega) only [go_sem,undef,H.hs]
          refine wr2 H fun M7 f9 H => ?_
          simp (disch:=omega) only [go_sem,undef]
          exact handN_intro (l.length - (done.length + 1)) (by omega) ⟨done ++ [k],by simp,rfl,hI2.frame ((((g.trans0 f7).sub (T:=[b7]) (by simp)).transS f8).transS f9) (by simpa using hit7.symm) (by simpa using hr7.symm),by rw [hfold,hst]; exact H.drop1.drop1⟩
      · have hst:stepA i c acc k n = acc:=if_pos (.inr hC)
        by_cases hA1:k.1 = i.1
        · simp (disch:=omega) only [go_sem,undef,H.hs,dec_t hA1,dec_f (show ¬ k.2 ≥ i.2 from fun h => hA ⟨hA1,h⟩)]
          refine call_H H (clash_s n.cmd c hnc hc _) fun M5 f7 H => ?_
          simp (disch:=omega) only [go_sem,undef,dec_f hC,H.hs]
          exact handN_intro (l.length - (done.length + 1)) (by omega) ⟨done ++ [k],by simp,rfl,hI2.frame (g.trans0 f7) (by simp) (by simp),by rw [hfold,hst]; exact H.drop1.drop1⟩
        · simp (disch:=omega) only [go_sem,undef,H.hs,dec_f hA1]
          refine call_H H (clash_s n.cmd c hnc hc _) fun M5 f7 H => ?_
          simp (disch:=omega) only [go_sem,undef,dec_f hC,H.hs]
          exact handN_intro (l.length - (done.length + 1)) (by omega) ⟨done ++ [k],by simp,rfl,hI2.frame (g.trans0 f7) (by simp) (by simp),by rw [hfold,hst]; exact H.drop1.drop1⟩
end Go.Fw
