import Derived.Test.YtimedjfpihdffaaGreatFxA
import Derived.Test.YtimedjfpihdffaaGreatCd
import Derived.Test.YtimedjfpihdffaaGreatBa
import Derived.Test.YtimedjfpihdffaaGreatCdL
set_option linter.unusedVariables false
set_option linter.unusedSimpArgs false
/-! The codec in plain words: numbers, texts, flags, commands, attributes, cells, records. -/
namespace Go.Fw
open Go
def zig (n:Int):Nat:=if n < 0 then (-2 * n - 1).toNat else (2 * n).toNat
def zag (u:Nat):Int:=if u % 2 = 1 then -((u / 2:Nat):Int) - 1 else ((u / 2:Nat):Int)
def numF:Nat → Nat → List UInt8
  | 0,_ => []
  | f + 1,u => if u < 128 then [UInt8.ofNat u] else UInt8.ofNat (u % 128 + 128) :: numF f (u / 128)
def numB (n:Int):List UInt8:=numF 10 (zig n)
def textB (s:ByteArray):List UInt8:=numB s.size ++ s.data.toList
def flagB (f:Bool):List UInt8:=if f then [1] else [0]
/-- a reader: its place, its first error -/
structure RS where
  pos:Nat
  wr:Int
def numR:List UInt8 → Nat → Nat → Int ⊕ (Nat × Nat)
  | [],_,_ => .inl 3
  | c :: r,i,u => if (0 < i ∧ c.toNat = 0) ∨ (i = 9 ∧ 1 < c.toNat) then .inl 4 else if c.toNat < 128 then .inr (u + c.toNat * 2 ^ (7 * i),i + 1) else numR r (i + 1) (u + c.toNat % 128 * 2 ^ (7 * i))
def numE (s:RS):Int ⊕ (Nat × Nat) → Int × RS
  | .inl e => (0,⟨s.pos,e⟩)
  | .inr (u,k) => (zag u,⟨s.pos + k,s.wr⟩)
def RS.num (b:List UInt8) (s:RS):Int × RS:=if s.wr ≠ 0 then (0,s) else numE s (numR (b.drop s.pos) 0 0)
def RS.count (b:List UInt8) (s:RS) (most:Int):Int × RS :=
  if (s.num b).2.wr = 0 ∧ ((s.num b).1 < 0 ∨ most < (s.num b).1) then (0,⟨s.pos,2⟩) else s.num b
def RS.text (b:List UInt8) (s:RS) (most:Int):ByteArray × RS :=
  if (s.count b most).2.wr ≠ 0 then (noB,(s.count b most).2) else
  if ((b.length - (s.count b most).2.pos:Nat):Int) < (s.count b most).1 then (noB,⟨s.pos,3⟩) else
  (⟨((b.drop (s.count b most).2.pos).take (s.count b most).1.toNat).toArray⟩,⟨(s.count b most).2.pos + (s.count b most).1.toNat,0⟩)
def RS.fin (b:List UInt8) (s:RS):RS:=if s.wr = 0 ∧ s.pos < b.length then ⟨s.pos,5⟩ else s
def RS.bad (s:RS):RS:=if s.wr = 0 then ⟨s.pos,4⟩ else s
theorem zig_lt (n:Int) (h:-9223372036854775808 ≤ n ∧ n ≤ 9223372036854775807):zig n < 2 ^ 64:=by unfold zig; split <;> omega
end Go.Fw
namespace Go.Fw
open Go.Proofs
/-- the block that a slice hangs on, if it has elements -/
def bk (v:Value) (b:List UInt8):List Nat:=if b = [] then [] else blkOf v
theorem RdB.there {m:Mem} {v:Value} {b:List UInt8} (h:RdB m v b):∀ x ∈ bk v b,m x ≠ none:=fun x hx => by
  unfold bk at hx; split at hx
  · cases hx
  · rename_i hne
    obtain ⟨_,a,c,rfl,_,hr⟩:=h
    rcases hr with h0 | ⟨bb,o,rfl,hc⟩
    · have:=bys_len b
      rw [bys,h0] at this
      exact absurd (List.eq_nil_of_length_eq_zero (by simpa using this.symm)) hne
    · simp only [blkOf,List.mem_singleton] at hx; subst hx
      have h1:0 < b.length:=List.length_pos_iff.2 hne
      have h2:=hc 0 _ (List.getElem?_eq_getElem (by rw [fm_len bc_len]; omega))
      intro e; rw [e] at h2; cases h2
theorem RdB.stk {m m':Mem} {v:Value} {b:List UInt8} (h:RdB m v b) (e:∀ x ∈ bk v b,m' x = m x):RdB m' v b:=by
  by_cases hne:b = []
  · subst hne
    obtain ⟨hk,a,c,rfl,hc,_⟩:=h
    exact ⟨hk,a,c,rfl,hc,.inl rfl⟩
  · exact h.st fun x hx => e x (by unfold bk; rw [if_neg hne]; exact hx)
def rdrA (t rb:Nat) (a:Option Addr) (c:Nat) (b:List UInt8) (s:RS):As where
  fp:=rb :: bk (.slice a b.length c) b
  wp:=[rb]
  sub _ h:=by simp at h; simp [h]
  p m:=m rb = some (.cells [Value.slice a b.length c,.int .i64 s.pos,.int .i64 s.wr].toArray t (0,0)) ∧ RdB m (.slice a b.length c) b ∧ rb ∉ bk (.slice a b.length c) b ∧ (∀ x ∈ bk (.slice a b.length c) b,m x ≠ none) ∧ s.pos ≤ b.length ∧ b.length ≤ 1099511627776
  st h e:=⟨by rw [e _ (by simp)]; exact h.1,RdB.stk h.2.1 fun x hx => e x (List.mem_cons_of_mem _ hx),h.2.2.1,fun x hx => by rw [e x (List.mem_cons_of_mem _ hx)]; exact h.2.2.2.1 x hx,h.2.2.2.2⟩
  th h x hx:=by
    rcases List.mem_cons.1 hx with rfl | hx
    · rw [h.1]; exact Option.some_ne_none _
    · exact h.2.2.2.1 x hx
instance {t rb:Nat} {a:Option Addr} {c:Nat} {b:List UInt8} {s:RS} {L:List As} {G:List (Nat × Obj)} [I:CellF L G]:CellF (rdrA t rb a c b s :: L) ((rb,.cells [Value.slice a b.length c,.int .i64 s.pos,.int .i64 s.wr].toArray t (0,0)) :: G):=⟨fun m h => ⟨h.1.1,I.h m h.2⟩⟩
instance {t rb:Nat} {a:Option Addr} {c:Nat} {b:List UInt8} {s s':RS}:SameB (rdrA t rb a c b s') (rdrA t rb a c b s):=⟨rfl,rfl⟩
variable {t rb:Nat} {a:Option Addr} {c:Nat} {b:List UInt8} {s:RS} {m m0:Mem} {S:List Nat} {L:List As}
theorem bc_0 (x:UInt8):(bc x)[0]? = some (bv x):=rfl
attribute [go_sem] bc_0
end Go.Fw
namespace Go.Fw
open Go.Proofs
variable {t rb:Nat} {a:Option Addr} {c:Nat} {b:List UInt8} {s:RS} {m m0:Mem} {S:List Nat} {L:List As}
end Go.Fw
namespace Go.Fw
open Go.Proofs
variable {m:Mem}
theorem word_Zig_s (n:Int) (h:-9223372036854775808 ≤ n ∧ n ≤ 9223372036854775807):MC Tryz.prog n_word_Zig [.int .i64 n] m fun v M => v = .int .u64 ((zig n:Nat):Int) ∧ Fr m M []:=by
  refine Q144go (by simp [Tryz.f33]) ?_
  have e1:∀ M,rd (.ish .shr) [.int .i64 n,.int .u64 63] M = some (.int .i64 (if n < 0 then -1 else 0)):=fun M => by
    show (if (63:Int) < 0 then none else some (Value.int .i64 (n.fdiv (2 ^ min (63:Int).toNat 64)))) = _
    rw [if_neg (by omega)]
    congr 2
    rw [Int.fdiv_eq_ediv_of_nonneg _ (by decide)]
    show n / 9223372036854775808 = _
    split <;> omega
  have e2:∀ M,rd (.ish .shl) [.int .u64 (IntKind.u64.wrap n),.int .u64 1] M = some (.int .u64 ((2 * n % 18446744073709551616).toNat:Nat)):=fun M => by
    show (if (1:Int) < 0 then none else some (Value.int .u64 (IntKind.u64.wrap (IntKind.u64.wrap n * 2 ^ min (1:Int).toNat 64)))) = _
    rw [if_neg (by omega)]
    congr 2
    show IntKind.u64.wrap (IntKind.u64.wrap n * 2) = _
    simp [IntKind.wrap,IntKind.bits,IntKind.signed]; omega
  by_cases h0:n < 0
  · simp (disch:=omega) only [go_sem,undef,e1,e2,if_pos h0,show IntKind.u64.wrap (-1) = 18446744073709551615 from by decide,rd_u64_xor1 (2 * n % 18446744073709551616).toNat (by omega)]
    refine ⟨?_,Fr.refl _ _⟩
    congr 1
    simp only [zig,if_pos h0]; omega
  · simp (disch:=omega) only [go_sem,undef,e1,e2,if_neg h0,show IntKind.u64.wrap 0 = 0 from by decide,rd_u64_xor0 (2 * n % 18446744073709551616).toNat (by omega)]
    refine ⟨?_,Fr.refl _ _⟩
    congr 1
    simp only [zig,if_neg h0]; omega
theorem pack_grown_s {v:Value} {l:List UInt8} (hv:RdB m v l) (hl:l.length ≤ 1099511627776) (k:Nat) (hk:k ≤ 1099511627776):CN Tryz.prog n_pack_grown [v,.int .i64 (k:Int)] m fun u A => A = byA T_uint8 u l:=by
  obtain ⟨a,c,rfl⟩:=hv.form
  refine Q108go (by simp [Tryz.f33]) ?_
  have H:=Hq.refl m []
  simp (disch:=omega) only [go_sem,undef]
  refine newQ H fun b M f H => ?_
  have H:=H.toRow 1 0 (l.length + k) (by simp; omega) (by omega)
  simp only [Nat.zero_mul,List.take_zero] at H
  have e1:((l.length:Int) + (k:Int)).toNat = l.length + k:=by omega
  simp (disch:=omega) only [go_sem,undef,e1]
  have hv2:=hv.frame f
  refine appQ0 H (k:=l.length) rfl (ldS_of hv2) (by rw [bys_len]; omega) (bys_one l) rfl (by omega) (by omega) fun u M f H => ?_
  simp (disch:=omega) only [go_sem,undef]
  refine ⟨byA T_uint8 u l,rfl, ?_,H.fr,fun b hb => (H.done.2.2 b hb).resolve_left (by simp)⟩
  have:=H.hs.1
  simpa using this
theorem numF_len (f u:Nat):(numF f u).length ≤ f:=by
  induction f generalizing u with
  | zero => simp [numF]
  | succ f ih => simp only [numF]; split <;> simp; exact ih _
theorem numB_len (n:Int):(numB n).length ≤ 10:=numF_len _ _
theorem pack_num_s {v:Value} {l:List UInt8} (hv:(byA T_uint8 v l).p m) (hl:l.length ≤ 1099511627776) (n:Int) (hn:-9223372036854775808 ≤ n ∧ n ≤ 9223372036854775807):CM Tryz.prog n_pack_num [v,.int .i64 n] m (byA T_uint8 v l) fun u A => A = byA T_uint8 u (l ++ numB n):=by
  refine Q126go (by simp [Tryz.f33]) ?_
  have H:=Hq.one hv
  simp (disch:=omega) only [go_sem,undef]
  refine callQ H (word_Zig_s n hn) fun M f H => ?_
  simp (disch:=omega) only [go_sem,undef]
  refine loopQ_intro (fun k E m' => ∃ i q done w,k = 10 - i ∧ E = [(0,w),(5,.int .u64 (q:Nat))] ∧ i ≤ 9 ∧ q < 2 ^ (64 - 7 * i) ∧ done.length = i ∧ numB n = done ++ numF (10 - i) q ∧ Hq m m' (blkOf v) [byA T_uint8 w (l ++ done)]) 10 rfl ⟨0,zig n,[],v,rfl,rfl,by omega,by simpa using zig_lt n hn,rfl,rfl,by simpa using H⟩ ?_
  clear H f hv
  rintro k E m' ⟨i,q,done,w,rfl,rfl,hi,hq,hd,he,H⟩
  have hp:(2:Nat) ^ (64 - 7 * i) = if i = 9 then 2 else 2 ^ (64 - 7 * (i + 1)) * 128:=by
    split
    · rename_i e; subst e; decide
    · rw [show 64 - 7 * i = (64 - 7 * (i + 1)) + 7 from by omega,Nat.pow_add]
  have hq64:q < 18446744073709551616:=Nat.lt_of_lt_of_le hq (Nat.le_trans (Nat.pow_le_pow_right (by omega) (show 64 - 7 * i ≤ 64 by omega)) (by decide))
  simp (disch:=omega) only [go_sem,undef,u64_in]
  by_cases h1:128 ≤ q
  · have hi9:i ≠ 9:=by
      rintro rfl
      simp at hp; omega
    rw [if_neg hi9] at hp
    simp (disch:=omega) only [go_sem,undef,dec_t,u8_wrap,rd_u8_or (q % 256) (by omega)]
    refine newQ H fun b1 M f H => ?_
    simp (disch:=omega) only [go_sem,undef]
    refine appQ1 H (k:=1) rfl (ldS_cell (l:=[_]) H.cs.1 (by simp)) rfl (by simp [Value.oneCell']) rfl (by simp; omega) (by simp; omega) fun w2 M f H => ?_
    have H:=H.tail
    rw [show [Value.int IntKind.u8 ((q % 256 % 128 + 128:Nat):Int)].take (1 * 1) = bys [UInt8.ofNat (q % 128 + 128)] from by
      show [Value.int IntKind.u8 _] = [bv _]
      rw [← bv_of _ (by omega),show q % 256 % 128 = q % 128 from by omega]] at H
    have H:Hq m M (blkOf v) [byA T_uint8 w2 (l ++ (done ++ [UInt8.ofNat (q % 128 + 128)]))]:=by
      rw [← List.append_assoc,← byA_app]; exact H
    simp (disch:=omega) only [go_sem,undef,rd_u64_shr q 7 7 rfl (by omega)]
    have e10:10 - i = (10 - (i + 1)) + 1:=by omega
    rw [e10,numF,if_neg (by omega)] at he
    exact handN_intro (10 - (i + 1)) (by omega) ⟨i + 1,q / 2 ^ 7,_,w2,rfl,rfl,by omega,by rw [hp] at hq; exact Nat.div_lt_of_lt_mul (by omega),by simp [hd],by rw [he]; simp,H⟩
  · simp (disch:=omega) only [go_sem,undef,dec_f,u8_wrap]
    refine newQ H fun b1 M f H => ?_
    simp (disch:=omega) only [go_sem,undef]
    refine appQ1 H (k:=1) rfl (ldS_cell (l:=[_]) H.cs.1 (by simp)) rfl (by simp [Value.oneCell']) rfl (by simp; omega) (by simp; omega) fun w2 M f H => ?_
    have H:=H.tail
    rw [show [Value.int IntKind.u8 ((q % 256:Nat):Int)].take (1 * 1) = bys [UInt8.ofNat q] from by
      show [Value.int IntKind.u8 _] = [bv _]
      rw [show q % 256 = q from by omega,← bv_of _ (by omega)]] at H
    have e10:10 - i = (10 - (i + 1)) + 1:=by omega
    rw [e10,numF,if_pos (by omega)] at he
    have H:Hq m M (blkOf v) [byA T_uint8 w2 (l ++ numB n)]:=by
      rw [he,← List.append_assoc,← byA_app]; exact H
    simp (disch:=omega) only [go_sem,undef]
    exact ⟨_,rfl,H.hs.1,H.fr,fun b hb => H.done.2.2 b hb,fun b hb => H.done.2.2 b hb⟩
theorem pack_Num_w {v:Value} {l:List UInt8} (hv:RdB m v l) (hl:l.length ≤ 549755813888) (n:Int) (hn:-9223372036854775808 ≤ n ∧ n ≤ 9223372036854775807):CN Tryz.prog n_pack_Num [v,.int .i64 n] m fun u A => A = byA T_uint8 u (l ++ numB n):=by
  refine Q97go (by simp [Tryz.f33]) ?_
  have H:=Hq.refl m []
  simp (disch:=omega) only [go_sem,undef]
  refine callN H (pack_grown_s hv (by omega) 10 (by omega)) fun u M A' eA f H => ?_
  subst eA
  simp (disch:=omega) only [go_sem,undef]
  refine callA0 H (pack_num_s (H.at 0 rfl) (by omega) n hn) fun u M A' eA f H => ?_
  subst eA
  simp (disch:=omega) only [go_sem,undef]
  exact ⟨_,rfl,H.hs.1,H.fr,fun b hb => (H.done.2.2 b hb).resolve_left (by simp)⟩
theorem pack_Text_w {v:Value} {l:List UInt8} (hv:RdB m v l) (hl:l.length ≤ 549755813888) (s:ByteArray) (hs:s.size ≤ 549755813888):CN Tryz.prog n_pack_Text [v,.string s] m fun u A => A = byA T_uint8 u (l ++ textB s):=by
  refine Q143go (by simp [Tryz.f33]) ?_
  have H:=Hq.refl m []
  have hn:=numB_len s.size
  simp (disch:=omega) only [go_sem,undef]
  refine callN H (pack_grown_s hv (by omega) (10 + s.size) (by omega)) fun u M A' eA f H => ?_
  subst eA
  simp (disch:=omega) only [go_sem,undef]
  refine callA0 H (pack_num_s (H.at 0 rfl) (by omega) s.size (by omega)) fun u M A' eA f H => ?_
  subst eA
  simp (disch:=omega) only [go_sem,undef]
  refine apsQ0 H (by rw [List.length_append]; omega) fun u M f H => ?_
  rw [str_bys,show s.size = s.data.toList.length from rfl,byA_app] at H
  simp (disch:=omega) only [go_sem,undef]
  exact ⟨byA T_uint8 u (l ++ textB s),rfl,by rw [textB,← List.append_assoc]; exact H.hs.1,H.fr,fun b hb => (H.done.2.2 b hb).resolve_left (by simp)⟩
theorem pack_Flag_w {v:Value} {l:List UInt8} (hv:RdB m v l) (hl:l.length ≤ 549755813888) (x:Bool):CN Tryz.prog n_pack_Flag [v,.bool x] m fun u A => A = byA T_uint8 u (l ++ flagB x):=by
  refine Q124go (by simp [Tryz.f33]) ?_
  have H:=Hq.refl m []
  cases x
  · simp (disch:=omega) only [go_sem,undef]
    refine callN H (pack_grown_s hv (by omega) 1 (by omega)) fun u M A' eA f H => ?_
    subst eA
    simp (disch:=omega) only [go_sem,undef]
    refine newQ H fun b1 M f H => ?_
    simp (disch:=omega) only [go_sem,undef]
    refine appQ1 H (k:=1) rfl (ldS_cell (l:=[_]) H.cs.1 (by simp)) rfl (by simp [Value.oneCell']) rfl (by omega) (by omega) fun w2 M f H => ?_
    have H:=H.tail
    rw [show [Value.int IntKind.u8 0].take (1 * 1) = bys [0] from rfl,show l.length + 1 = l.length + [(0:UInt8)].length from rfl,byA_app] at H
    simp (disch:=omega) only [go_sem,undef]
    exact ⟨_,rfl,H.hs.1,H.fr,fun b hb => (H.done.2.2 b hb).resolve_left (by simp)⟩
  · simp (disch:=omega) only [go_sem,undef]
    refine callN H (pack_grown_s hv (by omega) 1 (by omega)) fun u M A' eA f H => ?_
    subst eA
    simp (disch:=omega) only [go_sem,undef]
    refine newQ H fun b1 M f H => ?_
    simp (disch:=omega) only [go_sem,undef]
    refine appQ1 H (k:=1) rfl (ldS_cell (l:=[_]) H.cs.1 (by simp)) rfl (by simp [Value.oneCell']) rfl (by omega) (by omega) fun w2 M f H => ?_
    have H:=H.tail
    rw [show [Value.int IntKind.u8 1].take (1 * 1) = bys [1] from rfl,show l.length + 1 = l.length + [(1:UInt8)].length from rfl,byA_app] at H
    simp (disch:=omega) only [go_sem,undef]
    exact ⟨_,rfl,H.hs.1,H.fr,fun b hb => (H.done.2.2 b hb).resolve_left (by simp)⟩
end Go.Fw
namespace Go.Fw
open Go
def cmdT (c:Cmd):List UInt8:=if c.kind = 2 then textB c.val else if c.kind = 4 then textB c.old ++ textB c.val else if c.kind = 5 then textB c.fin else []
def cmdB (c:Cmd):List UInt8:=numB c.kind ++ if c.kind = 0 then [] else numB c.client ++ (numB c.seq ++ (textB c.key ++ cmdT c))
def depsB (d:Dp):Nat → List UInt8
  | 0 => []
  | k + 1 => depsB d k ++ numB (d.g k)
def attB (a:Att):List UInt8:=numB a.seq ++ depsB a.deps 7
def ballB (p:Int × Int):List UInt8:=numB p.1 ++ numB p.2
def celB (c:Cel):List UInt8:=numB c.st ++ (ballB c.pr ++ if c.st = 0 then [] else ballB c.vo ++ (cmdB c.cmd ++ (attB c.att ++ flagB c.same)))
def recB (i:Int × Int) (c:Cel):List UInt8:=ballB i ++ celB c
def RS.two (b:List UInt8) (s:RS):(Int × Int) × RS:=(((s.num b).1,((s.num b).2.num b).1),((s.num b).2.num b).2)
def Att.ok (a:Att):Bool:=decide (rightA a)
end Go.Fw
namespace Go.Fw
open Go.Proofs
variable {t rb:Nat} {a:Option Addr} {c:Nat} {b:List UInt8} {s:RS} {m m0:Mem} {S:List Nat} {L:List As}
end Go.Fw
namespace Go.Fw
open Go.Proofs
variable {m:Mem}
theorem textB_len (s:ByteArray):(textB s).length ≤ 10 + s.size:=by
  have:=numB_len s.size
  rw [textB,List.length_append]
  have:s.data.toList.length = s.size:=rfl
  omega
theorem CN_end {T:TypeId} {u:Value} {l l':List UInt8} {m M:Mem} {L:List As} (H:Hq m M [] (byA T u l :: L)) (e:l = l'):∃ A',A' = byA T u l' ∧ A'.p M ∧ Fr m M [] ∧ ∀ b ∈ A'.fp,m b = none:=by
  subst e
  exact ⟨_,rfl,H.hs.1,H.fr,fun b hb => (H.done.2.2 b hb).resolve_left (by simp)⟩
theorem cmd_bounds {c:Cmd} (h:c.right):0 ≤ c.kind ∧ c.kind ≤ 5 ∧ 0 ≤ c.client ∧ c.client ≤ 8 ∧ 0 ≤ c.seq ∧ c.seq ≤ 1099511627776 ∧ c.key.size ≤ 16 ∧ c.fin.size ≤ 16 ∧ c.old.size ≤ 64 ∧ c.val.size ≤ 64:=by
  rcases h with rfl | h
  · simp [Cmd.zero,ByteArray.size]
  · omega
theorem cmd_Put_w {v:Value} {l:List UInt8} (hv:RdB m v l) (hl:l.length ≤ 100000) (c:Cmd) (hc:c.right):CN Tryz.prog n_cmd_Put [v,c.v] m fun u A => A = byA T_uint8 u (l ++ cmdB c):=by
  obtain ⟨h1,h2,h3,h4,h5,h6,h7,h8,h9,h10⟩:=cmd_bounds hc
  refine Q123go (by simp [Tryz.f33]) ?_
  have H:=Hq.refl m []
  simp (disch:=omega) only [go_sem,undef]
  repeat' (first
    | ((with_reducible refine newQ H fun _ _ f H2 => ?_); clear f; clear H; have H:=H2; clear H2; simp (disch:=omega) only [go_sem,undef,H.cs, *,decide_eq_true hc])
    | ((with_reducible refine wrQ0 H fun _ f H2 => ?_); clear f; clear H; have H:=H2; clear H2; simp (disch:=omega) only [go_sem,undef,H.cs, *,decide_eq_true hc])
    | ((with_reducible refine wrQ1 H fun _ f H2 => ?_); clear f; clear H; have H:=H2; clear H2; simp (disch:=omega) only [go_sem,undef,H.cs, *,decide_eq_true hc])
    | ((with_reducible refine wrQ2 H fun _ f H2 => ?_); clear f; clear H; have H:=H2; clear H2; simp (disch:=omega) only [go_sem,undef,H.cs, *,decide_eq_true hc])
    | ((with_reducible refine wrQ3 H fun _ f H2 => ?_); clear f; clear H; have H:=H2; clear H2; simp (disch:=omega) only [go_sem,undef,H.cs, *,decide_eq_true hc])
    | ((with_reducible refine wrQ4 H fun _ f H2 => ?_); clear f; clear H; have H:=H2; clear H2; simp (disch:=omega) only [go_sem,undef,H.cs, *,decide_eq_true hc])
    | ((with_reducible refine wrQ5 H fun _ f H2 => ?_); clear f; clear H; have H:=H2; clear H2; simp (disch:=omega) only [go_sem,undef,H.cs, *,decide_eq_true hc])
    | ((with_reducible refine stwQ0 H ?hl ?h1 fun _ f H2 => ?_); (case hl => rfl); (case h1 => rfl); clear f; clear H; have H:=H2; clear H2; simp (disch:=omega) only [go_sem,undef,H.cs, *,decide_eq_true hc])
    | ((with_reducible refine stwQ1 H ?hl ?h1 fun _ f H2 => ?_); (case hl => rfl); (case h1 => rfl); clear f; clear H; have H:=H2; clear H2; simp (disch:=omega) only [go_sem,undef,H.cs, *,decide_eq_true hc])
    | ((with_reducible refine stwQ2 H ?hl ?h1 fun _ f H2 => ?_); (case hl => rfl); (case h1 => rfl); clear f; clear H; have H:=H2; clear H2; simp (disch:=omega) only [go_sem,undef,H.cs, *,decide_eq_true hc])
    | ((with_reducible refine stwQ3 H ?hl ?h1 fun _ f H2 => ?_); (case hl => rfl); (case h1 => rfl); clear f; clear H; have H:=H2; clear H2; simp (disch:=omega) only [go_sem,undef,H.cs, *,decide_eq_true hc])
    | ((with_reducible refine stwQ4 H ?hl ?h1 fun _ f H2 => ?_); (case hl => rfl); (case h1 => rfl); clear f; clear H; have H:=H2; clear H2; simp (disch:=omega) only [go_sem,undef,H.cs, *,decide_eq_true hc])
    | ((with_reducible refine stwQ5 H ?hl ?h1 fun _ f H2 => ?_); (case hl => rfl); (case h1 => rfl); clear f; clear H; have H:=H2; clear H2; simp (disch:=omega) only [go_sem,undef,H.cs, *,decide_eq_true hc])
    | ((with_reducible refine stQ0 H ?hl ?h1 fun _ f H2 => ?_); (case hl => exact Nat.le_of_ble_eq_true rfl); (case h1 => rfl); clear f; (simp only [go_sem] at H2); clear H; have H:=H2; clear H2; simp (disch:=omega) only [go_sem,undef,H.cs, *,decide_eq_true hc])
    | ((with_reducible refine stQ1 H ?hl ?h1 fun _ f H2 => ?_); (case hl => exact Nat.le_of_ble_eq_true rfl); (case h1 => rfl); clear f; (simp only [go_sem] at H2); clear H; have H:=H2; clear H2; simp (disch:=omega) only [go_sem,undef,H.cs, *,decide_eq_true hc])
    | ((with_reducible refine stQ2 H ?hl ?h1 fun _ f H2 => ?_); (case hl => exact Nat.le_of_ble_eq_true rfl); (case h1 => rfl); clear f; (simp only [go_sem] at H2); clear H; have H:=H2; clear H2; simp (disch:=omega) only [go_sem,undef,H.cs, *,decide_eq_true hc])
    | ((with_reducible refine stQ3 H ?hl ?h1 fun _ f H2 => ?_); (case hl => exact Nat.le_of_ble_eq_true rfl); (case h1 => rfl); clear f; (simp only [go_sem] at H2); clear H; have H:=H2; clear H2; simp (disch:=omega) only [go_sem,undef,H.cs, *,decide_eq_true hc])
    | ((with_reducible refine callQ H (cmd_Right_s _ _) fun _ f H2 => ?_); clear f; clear H; have H:=H2; clear H2; simp (disch:=omega) only [go_sem,undef,H.cs, *,decide_eq_true hc])
    | ((with_reducible refine tN0 H (fun h => pack_Num_w (byA_rd h) (by grind [numB_len,textB_len,List.length_append]) _ (by omega)) fun _ _ _ e f H2 => ?_); subst e; clear f; clear H; have H:=H2; clear H2; simp (disch:=omega) only [go_sem,undef,H.cs, *,decide_eq_true hc])
    | ((with_reducible refine tN1 H (fun h => pack_Num_w (byA_rd h) (by grind [numB_len,textB_len,List.length_append]) _ (by omega)) fun _ _ _ e f H2 => ?_); subst e; clear f; clear H; have H:=H2; clear H2; simp (disch:=omega) only [go_sem,undef,H.cs, *,decide_eq_true hc])
    | ((with_reducible refine tN2 H (fun h => pack_Num_w (byA_rd h) (by grind [numB_len,textB_len,List.length_append]) _ (by omega)) fun _ _ _ e f H2 => ?_); subst e; clear f; clear H; have H:=H2; clear H2; simp (disch:=omega) only [go_sem,undef,H.cs, *,decide_eq_true hc])
    | ((with_reducible refine callN H (pack_Num_w (hv.frame H.fr) (by omega) _ (by omega)) fun _ _ _ e f H2 => ?_); subst e; clear f; clear H; have H:=H2; clear H2; simp (disch:=omega) only [go_sem,undef,H.cs, *,decide_eq_true hc])
    | ((with_reducible refine tN0 H (fun h => pack_Text_w (byA_rd h) (by grind [numB_len,textB_len,List.length_append]) _ (by omega)) fun _ _ _ e f H2 => ?_); subst e; clear f; clear H; have H:=H2; clear H2; simp (disch:=omega) only [go_sem,undef,H.cs, *,decide_eq_true hc])
    | ((with_reducible refine tN1 H (fun h => pack_Text_w (byA_rd h) (by grind [numB_len,textB_len,List.length_append]) _ (by omega)) fun _ _ _ e f H2 => ?_); subst e; clear f; clear H; have H:=H2; clear H2; simp (disch:=omega) only [go_sem,undef,H.cs, *,decide_eq_true hc])
    | ((with_reducible refine tN2 H (fun h => pack_Text_w (byA_rd h) (by grind [numB_len,textB_len,List.length_append]) _ (by omega)) fun _ _ _ e f H2 => ?_); subst e; clear f; clear H; have H:=H2; clear H2; simp (disch:=omega) only [go_sem,undef,H.cs, *,decide_eq_true hc])
    | ((with_reducible refine gQ_split (fun hq => ?_) (fun hq => ?_)) <;> (try simp only [Bool.not_true,Bool.not_false] at hq) <;> simp (disch:=omega) only [go_sem,undef,H.cs, *,decide_eq_true hc])
    | ((with_reducible refine condB_split (fun hq => ?_) (fun hq => ?_)) <;> simp (disch:=omega) only [go_sem,undef,H.cs, *,decide_eq_true hc]))
  all_goals (simp only [decide_eq_true_eq,decide_eq_false_iff_not] at *)
  all_goals first
    | exact post_intro (CN_end H (by simp [cmdB,cmdT, *]))
    | (exfalso; omega)
theorem deps_Put_w {v:Value} {l:List UInt8} (hv:RdB m v l) (hl:l.length ≤ 100000) (a:Att) (ha:rightA a):CN Tryz.prog n_deps_Put [v,a.v] m fun u A => A = byA T_uint8 u (l ++ attB a):=by
  refine Q125go (by simp [Tryz.f33]) ?_
  have H:=Hq.refl m []
  have hs:=ha.2
  have hd:∀ k,k < 7 → 0 ≤ a.deps.g k ∧ a.deps.g k ≤ 1073741824:=fun k hk => by rw [Dp.g_lt _ hk]; exact ha.1 _
  simp (disch:=omega) only [go_sem,undef]
  refine newQ H fun b1 _ _ H => ?_
  simp (disch:=omega) only [go_sem,undef,H.cs]
  refine callN H (pack_Num_w (hv.frame H.fr) (by omega) _ (by omega)) fun u M A' e f H => ?_
  subst e
  simp (disch:=omega) only [go_sem,undef,H.cs]
  refine loopQ_intro (fun n E m' => ∃ k u,k ≤ 7 ∧ n = 7 - k ∧ E = [(0,u),(12,.agg (dv a.deps).toArray),(13,.int .i64 (k:Nat))] ∧ (depsB a.deps k).length ≤ 10 * k ∧ Hq m m' [] [byA T_uint8 u (l ++ numB a.seq ++ depsB a.deps k)]) 7 rfl ⟨0,u,by omega,rfl,rfl,by simp [depsB],by simpa [depsB] using dropQ1 H⟩ ?_
  clear H f
  rintro n E m' ⟨k,u,hk,rfl,rfl,hlen,H⟩
  simp (disch:=omega) only [go_sem,undef]
  have hn:=numB_len a.seq
  refine condB_dec (fun h1 => ?_) (fun h1 => ?_)
  · have h2:k < 7:=by omega
    have h3:=hd k h2
    have h4:=numB_len (a.deps.g k)
    simp (disch:=omega) only [go_sem,undef]
    refine tN0 H (fun h => pack_Num_w (byA_rd h) (by simp only [List.length_append]; omega) _ (by omega)) fun u2 M A' e f H => ?_
    subst e
    simp (disch:=omega) only [go_sem,undef]
    exact handN_intro (7 - (k + 1)) (by omega) ⟨k + 1,u2,by omega,rfl,rfl,by simp only [depsB,List.length_append]; omega,by simpa [depsB] using dropQ1 H⟩
  · have h2:k = 7:=by omega
    subst h2
    simp (disch:=omega) only [go_sem,undef]
    exact CN_end H (by simp [attB])
theorem ballot_w {v:Value} {l:List UInt8} (hv:RdB m v l) (hl:l.length ≤ 100000) (p:Int × Int) (hp:(-9223372036854775808 ≤ p.1 ∧ p.1 ≤ 9223372036854775807) ∧ -9223372036854775808 ≤ p.2 ∧ p.2 ≤ 9223372036854775807):CN Tryz.prog n_letter_ballot [v,pv p] m fun u A => A = byA T_uint8 u (l ++ ballB p):=by
  refine Q122go (by simp [Tryz.f33]) ?_
  have H:=Hq.refl m []
  simp (disch:=omega) only [go_sem,undef]
  repeat' (first
    | ((with_reducible refine newQ H fun _ _ f H2 => ?_); clear f; clear H; have H:=H2; clear H2; simp (disch:=omega) only [go_sem,undef,H.cs, *])
    | ((with_reducible refine wrQ0 H fun _ f H2 => ?_); clear f; clear H; have H:=H2; clear H2; simp (disch:=omega) only [go_sem,undef,H.cs, *])
    | ((with_reducible refine wrQ1 H fun _ f H2 => ?_); clear f; clear H; have H:=H2; clear H2; simp (disch:=omega) only [go_sem,undef,H.cs, *])
    | ((with_reducible refine wrQ2 H fun _ f H2 => ?_); clear f; clear H; have H:=H2; clear H2; simp (disch:=omega) only [go_sem,undef,H.cs, *])
    | ((with_reducible refine wrQ3 H fun _ f H2 => ?_); clear f; clear H; have H:=H2; clear H2; simp (disch:=omega) only [go_sem,undef,H.cs, *])
    | ((with_reducible refine wrQ4 H fun _ f H2 => ?_); clear f; clear H; have H:=H2; clear H2; simp (disch:=omega) only [go_sem,undef,H.cs, *])
    | ((with_reducible refine wrQ5 H fun _ f H2 => ?_); clear f; clear H; have H:=H2; clear H2; simp (disch:=omega) only [go_sem,undef,H.cs, *])
    | ((with_reducible refine stwQ0 H ?hl ?h1 fun _ f H2 => ?_); (case hl => rfl); (case h1 => rfl); clear f; clear H; have H:=H2; clear H2; simp (disch:=omega) only [go_sem,undef,H.cs, *])
    | ((with_reducible refine stwQ1 H ?hl ?h1 fun _ f H2 => ?_); (case hl => rfl); (case h1 => rfl); clear f; clear H; have H:=H2; clear H2; simp (disch:=omega) only [go_sem,undef,H.cs, *])
    | ((with_reducible refine stwQ2 H ?hl ?h1 fun _ f H2 => ?_); (case hl => rfl); (case h1 => rfl); clear f; clear H; have H:=H2; clear H2; simp (disch:=omega) only [go_sem,undef,H.cs, *])
    | ((with_reducible refine stwQ3 H ?hl ?h1 fun _ f H2 => ?_); (case hl => rfl); (case h1 => rfl); clear f; clear H; have H:=H2; clear H2; simp (disch:=omega) only [go_sem,undef,H.cs, *])
    | ((with_reducible refine stwQ4 H ?hl ?h1 fun _ f H2 => ?_); (case hl => rfl); (case h1 => rfl); clear f; clear H; have H:=H2; clear H2; simp (disch:=omega) only [go_sem,undef,H.cs, *])
    | ((with_reducible refine stwQ5 H ?hl ?h1 fun _ f H2 => ?_); (case hl => rfl); (case h1 => rfl); clear f; clear H; have H:=H2; clear H2; simp (disch:=omega) only [go_sem,undef,H.cs, *])
    | ((with_reducible refine stQ0 H ?hl ?h1 fun _ f H2 => ?_); (case hl => exact Nat.le_of_ble_eq_true rfl); (case h1 => rfl); clear f; (simp only [go_sem] at H2); clear H; have H:=H2; clear H2; simp (disch:=omega) only [go_sem,undef,H.cs, *])
    | ((with_reducible refine stQ1 H ?hl ?h1 fun _ f H2 => ?_); (case hl => exact Nat.le_of_ble_eq_true rfl); (case h1 => rfl); clear f; (simp only [go_sem] at H2); clear H; have H:=H2; clear H2; simp (disch:=omega) only [go_sem,undef,H.cs, *])
    | ((with_reducible refine stQ2 H ?hl ?h1 fun _ f H2 => ?_); (case hl => exact Nat.le_of_ble_eq_true rfl); (case h1 => rfl); clear f; (simp only [go_sem] at H2); clear H; have H:=H2; clear H2; simp (disch:=omega) only [go_sem,undef,H.cs, *])
    | ((with_reducible refine stQ3 H ?hl ?h1 fun _ f H2 => ?_); (case hl => exact Nat.le_of_ble_eq_true rfl); (case h1 => rfl); clear f; (simp only [go_sem] at H2); clear H; have H:=H2; clear H2; simp (disch:=omega) only [go_sem,undef,H.cs, *])
    | ((with_reducible refine tN0 H (fun h => pack_Num_w (byA_rd h) (by grind [numB_len,textB_len,List.length_append]) _ (by omega)) fun _ _ _ e f H2 => ?_); subst e; clear f; clear H; have H:=H2; clear H2; simp (disch:=omega) only [go_sem,undef,H.cs, *])
    | ((with_reducible refine tN1 H (fun h => pack_Num_w (byA_rd h) (by grind [numB_len,textB_len,List.length_append]) _ (by omega)) fun _ _ _ e f H2 => ?_); subst e; clear f; clear H; have H:=H2; clear H2; simp (disch:=omega) only [go_sem,undef,H.cs, *])
    | ((with_reducible refine tN2 H (fun h => pack_Num_w (byA_rd h) (by grind [numB_len,textB_len,List.length_append]) _ (by omega)) fun _ _ _ e f H2 => ?_); subst e; clear f; clear H; have H:=H2; clear H2; simp (disch:=omega) only [go_sem,undef,H.cs, *])
    | ((with_reducible refine callN H (pack_Num_w (hv.frame H.fr) (by omega) _ (by omega)) fun _ _ _ e f H2 => ?_); subst e; clear f; clear H; have H:=H2; clear H2; simp (disch:=omega) only [go_sem,undef,H.cs, *])
    | ((with_reducible refine gQ_split (fun hq => ?_) (fun hq => ?_)) <;> (try simp only [Bool.not_true,Bool.not_false] at hq) <;> simp (disch:=omega) only [go_sem,undef,H.cs, *])
    | ((with_reducible refine condB_split (fun hq => ?_) (fun hq => ?_)) <;> simp (disch:=omega) only [go_sem,undef,H.cs, *]))
  exact post_intro (CN_end H (by simp [ballB]))
theorem depsB_len (d:Dp):∀ k,(depsB d k).length ≤ 10 * k
  | 0 => by simp [depsB]
  | k + 1 => by
    have:=depsB_len d k
    have:=numB_len (d.g k)
    simp only [depsB,List.length_append]; omega
theorem cmdB_len {c:Cmd} (h:c.right):(cmdB c).length ≤ 300:=by
  obtain ⟨h1,h2,h3,h4,h5,h6,h7,h8,h9,h10⟩:=cmd_bounds h
  have:=numB_len c.kind
  have:=numB_len c.client
  have:=numB_len c.seq
  have:=textB_len c.key
  have:=textB_len c.fin
  have:=textB_len c.old
  have:=textB_len c.val
  unfold cmdB cmdT
  split
  · simp; omega
  · split
    · simp only [List.length_append]; omega
    · split
      · simp only [List.length_append]; omega
      · split <;> simp only [List.length_append,List.length_nil] <;> omega
theorem ballB_len (p:Int × Int):(ballB p).length ≤ 20:=by
  have:=numB_len p.1
  have:=numB_len p.2
  simp only [ballB,List.length_append]; omega
theorem attB_len (a:Att):(attB a).length ≤ 80:=by
  have:=numB_len a.seq
  have:=depsB_len a.deps 7
  simp only [attB,List.length_append]; omega
set_option maxHeartbeats 2000000 in
theorem letter_PutCell_w {v:Value} {l:List UInt8} (hv:RdB m v l) (hl:l.length ≤ 10000) (c:Cel) (hc:c.right):CN Tryz.prog n_letter_PutCell [v,c.v] m fun u A => A = byA T_uint8 u (l ++ celB c):=by
  have hc0:=hc
  obtain ⟨h1,h2,h3,h4,_,_,_,h5,h6⟩:=hc
  have:=cmdB_len h5
  refine Q96go (by simp [Tryz.f33]) ?_
  have H:=Hq.refl m []
  simp (disch:=omega) only [go_sem,undef]
  repeat' (first
    | ((with_reducible refine newQ H fun _ _ f H2 => ?_); clear f; clear H; have H:=H2; clear H2; simp (disch:=omega) only [go_sem,undef,H.cs, *,decide_eq_true hc0])
    | ((with_reducible refine wrQ0 H fun _ f H2 => ?_); clear f; clear H; have H:=H2; clear H2; simp (disch:=omega) only [go_sem,undef,H.cs, *,decide_eq_true hc0])
    | ((with_reducible refine wrQ1 H fun _ f H2 => ?_); clear f; clear H; have H:=H2; clear H2; simp (disch:=omega) only [go_sem,undef,H.cs, *,decide_eq_true hc0])
    | ((with_reducible refine wrQ2 H fun _ f H2 => ?_); clear f; clear H; have H:=H2; clear H2; simp (disch:=omega) only [go_sem,undef,H.cs, *,decide_eq_true hc0])
    | ((with_reducible refine wrQ3 H fun _ f H2 => ?_); clear f; clear H; have H:=H2; clear H2; simp (disch:=omega) only [go_sem,undef,H.cs, *,decide_eq_true hc0])
    | ((with_reducible refine wrQ4 H fun _ f H2 => ?_); clear f; clear H; have H:=H2; clear H2; simp (disch:=omega) only [go_sem,undef,H.cs, *,decide_eq_true hc0])
    | ((with_reducible refine wrQ5 H fun _ f H2 => ?_); clear f; clear H; have H:=H2; clear H2; simp (disch:=omega) only [go_sem,undef,H.cs, *,decide_eq_true hc0])
    | ((with_reducible refine stwQ0 H ?hl ?h1 fun _ f H2 => ?_); (case hl => rfl); (case h1 => rfl); clear f; clear H; have H:=H2; clear H2; simp (disch:=omega) only [go_sem,undef,H.cs, *,decide_eq_true hc0])
    | ((with_reducible refine stwQ1 H ?hl ?h1 fun _ f H2 => ?_); (case hl => rfl); (case h1 => rfl); clear f; clear H; have H:=H2; clear H2; simp (disch:=omega) only [go_sem,undef,H.cs, *,decide_eq_true hc0])
    | ((with_reducible refine stwQ2 H ?hl ?h1 fun _ f H2 => ?_); (case hl => rfl); (case h1 => rfl); clear f; clear H; have H:=H2; clear H2; simp (disch:=omega) only [go_sem,undef,H.cs, *,decide_eq_true hc0])
    | ((with_reducible refine stwQ3 H ?hl ?h1 fun _ f H2 => ?_); (case hl => rfl); (case h1 => rfl); clear f; clear H; have H:=H2; clear H2; simp (disch:=omega) only [go_sem,undef,H.cs, *,decide_eq_true hc0])
    | ((with_reducible refine stwQ4 H ?hl ?h1 fun _ f H2 => ?_); (case hl => rfl); (case h1 => rfl); clear f; clear H; have H:=H2; clear H2; simp (disch:=omega) only [go_sem,undef,H.cs, *,decide_eq_true hc0])
    | ((with_reducible refine stwQ5 H ?hl ?h1 fun _ f H2 => ?_); (case hl => rfl); (case h1 => rfl); clear f; clear H; have H:=H2; clear H2; simp (disch:=omega) only [go_sem,undef,H.cs, *,decide_eq_true hc0])
    | ((with_reducible refine stQ0 H ?hl ?h1 fun _ f H2 => ?_); (case hl => exact Nat.le_of_ble_eq_true rfl); (case h1 => rfl); clear f; (simp only [go_sem] at H2); clear H; have H:=H2; clear H2; simp (disch:=omega) only [go_sem,undef,H.cs, *,decide_eq_true hc0])
    | ((with_reducible refine stQ1 H ?hl ?h1 fun _ f H2 => ?_); (case hl => exact Nat.le_of_ble_eq_true rfl); (case h1 => rfl); clear f; (simp only [go_sem] at H2); clear H; have H:=H2; clear H2; simp (disch:=omega) only [go_sem,undef,H.cs, *,decide_eq_true hc0])
    | ((with_reducible refine stQ2 H ?hl ?h1 fun _ f H2 => ?_); (case hl => exact Nat.le_of_ble_eq_true rfl); (case h1 => rfl); clear f; (simp only [go_sem] at H2); clear H; have H:=H2; clear H2; simp (disch:=omega) only [go_sem,undef,H.cs, *,decide_eq_true hc0])
    | ((with_reducible refine stQ3 H ?hl ?h1 fun _ f H2 => ?_); (case hl => exact Nat.le_of_ble_eq_true rfl); (case h1 => rfl); clear f; (simp only [go_sem] at H2); clear H; have H:=H2; clear H2; simp (disch:=omega) only [go_sem,undef,H.cs, *,decide_eq_true hc0])
    | ((with_reducible refine callQ H (letter_RightCell_s _ _) fun _ f H2 => ?_); clear f; clear H; have H:=H2; clear H2; simp (disch:=omega) only [go_sem,undef,H.cs, *,decide_eq_true hc0])
    | ((with_reducible refine callN H (pack_Num_w (hv.frame H.fr) (by omega) _ (by omega)) fun _ _ _ e f H2 => ?_); subst e; clear f; clear H; have H:=H2; clear H2; simp (disch:=omega) only [go_sem,undef,H.cs, *,decide_eq_true hc0])
    | ((with_reducible refine tN0 H (fun h => ballot_w (byA_rd h) (by grind [numB_len,ballB_len,cmdB_len,attB_len,List.length_append]) _ (by omega)) fun _ _ _ e f H2 => ?_); subst e; clear f; clear H; have H:=H2; clear H2; simp (disch:=omega) only [go_sem,undef,H.cs, *,decide_eq_true hc0])
    | ((with_reducible refine tN1 H (fun h => ballot_w (byA_rd h) (by grind [numB_len,ballB_len,cmdB_len,attB_len,List.length_append]) _ (by omega)) fun _ _ _ e f H2 => ?_); subst e; clear f; clear H; have H:=H2; clear H2; simp (disch:=omega) only [go_sem,undef,H.cs, *,decide_eq_true hc0])
    | ((with_reducible refine tN2 H (fun h => ballot_w (byA_rd h) (by grind [numB_len,ballB_len,cmdB_len,attB_len,List.length_append]) _ (by omega)) fun _ _ _ e f H2 => ?_); subst e; clear f; clear H; have H:=H2; clear H2; simp (disch:=omega) only [go_sem,undef,H.cs, *,decide_eq_true hc0])
    | ((with_reducible refine tN0 H (fun h => cmd_Put_w (byA_rd h) (by grind [numB_len,ballB_len,cmdB_len,attB_len,List.length_append]) _ h5) fun _ _ _ e f H2 => ?_); subst e; clear f; clear H; have H:=H2; clear H2; simp (disch:=omega) only [go_sem,undef,H.cs, *,decide_eq_true hc0])
    | ((with_reducible refine tN1 H (fun h => cmd_Put_w (byA_rd h) (by grind [numB_len,ballB_len,cmdB_len,attB_len,List.length_append]) _ h5) fun _ _ _ e f H2 => ?_); subst e; clear f; clear H; have H:=H2; clear H2; simp (disch:=omega) only [go_sem,undef,H.cs, *,decide_eq_true hc0])
    | ((with_reducible refine tN2 H (fun h => cmd_Put_w (byA_rd h) (by grind [numB_len,ballB_len,cmdB_len,attB_len,List.length_append]) _ h5) fun _ _ _ e f H2 => ?_); subst e; clear f; clear H; have H:=H2; clear H2; simp (disch:=omega) only [go_sem,undef,H.cs, *,decide_eq_true hc0])
    | ((with_reducible refine tN0 H (fun h => deps_Put_w (byA_rd h) (by grind [numB_len,ballB_len,cmdB_len,attB_len,List.length_append]) _ h6) fun _ _ _ e f H2 => ?_); subst e; clear f; clear H; have H:=H2; clear H2; simp (disch:=omega) only [go_sem,undef,H.cs, *,decide_eq_true hc0])
    | ((with_reducible refine tN1 H (fun h => deps_Put_w (byA_rd h) (by grind [numB_len,ballB_len,cmdB_len,attB_len,List.length_append]) _ h6) fun _ _ _ e f H2 => ?_); subst e; clear f; clear H; have H:=H2; clear H2; simp (disch:=omega) only [go_sem,undef,H.cs, *,decide_eq_true hc0])
    | ((with_reducible refine tN2 H (fun h => deps_Put_w (byA_rd h) (by grind [numB_len,ballB_len,cmdB_len,attB_len,List.length_append]) _ h6) fun _ _ _ e f H2 => ?_); subst e; clear f; clear H; have H:=H2; clear H2; simp (disch:=omega) only [go_sem,undef,H.cs, *,decide_eq_true hc0])
    | ((with_reducible refine tN0 H (fun h => pack_Flag_w (byA_rd h) (by grind [numB_len,ballB_len,cmdB_len,attB_len,List.length_append]) _) fun _ _ _ e f H2 => ?_); subst e; clear f; clear H; have H:=H2; clear H2; simp (disch:=omega) only [go_sem,undef,H.cs, *,decide_eq_true hc0])
    | ((with_reducible refine tN1 H (fun h => pack_Flag_w (byA_rd h) (by grind [numB_len,ballB_len,cmdB_len,attB_len,List.length_append]) _) fun _ _ _ e f H2 => ?_); subst e; clear f; clear H; have H:=H2; clear H2; simp (disch:=omega) only [go_sem,undef,H.cs, *,decide_eq_true hc0])
    | ((with_reducible refine tN2 H (fun h => pack_Flag_w (byA_rd h) (by grind [numB_len,ballB_len,cmdB_len,attB_len,List.length_append]) _) fun _ _ _ e f H2 => ?_); subst e; clear f; clear H; have H:=H2; clear H2; simp (disch:=omega) only [go_sem,undef,H.cs, *,decide_eq_true hc0])
    | ((with_reducible refine gQ_split (fun hq => ?_) (fun hq => ?_)) <;> (try simp only [Bool.not_true,Bool.not_false] at hq) <;> simp (disch:=omega) only [go_sem,undef,H.cs, *,decide_eq_true hc0])
    | ((with_reducible refine condB_split (fun hq => ?_) (fun hq => ?_)) <;> simp (disch:=omega) only [go_sem,undef,H.cs, *,decide_eq_true hc0]))
  all_goals (simp only [decide_eq_true_eq,decide_eq_false_iff_not] at *)
  all_goals exact post_intro (CN_end H (by
    rw [celB]
    first
      | rw [if_pos hq]
      | rw [if_neg hq]
    simp only [List.append_assoc,List.append_nil]))
theorem log_Record_w (i:Int × Int) (hi:(-9223372036854775808 ≤ i.1 ∧ i.1 ≤ 9223372036854775807) ∧ -9223372036854775808 ≤ i.2 ∧ i.2 ≤ 9223372036854775807) (c:Cel) (hc:c.right):CN Tryz.prog n_log_Record [pv i,c.v] m fun u A => A = byA T_uint8 u (recB i c):=by
  refine Q67go (Nat.le_of_ble_eq_true rfl) ?_
  have H:=Hq.refl m []
  simp (disch:=omega) only [go_sem,undef]
  repeat' (first
    | ((with_reducible refine newQ H fun _ _ f H2 => ?_); clear f; clear H; have H:=H2; clear H2; simp (disch:=omega) only [go_sem,undef,H.cs, *])
    | ((with_reducible refine wrQ0 H fun _ f H2 => ?_); clear f; clear H; have H:=H2; clear H2; simp (disch:=omega) only [go_sem,undef,H.cs, *])
    | ((with_reducible refine wrQ1 H fun _ f H2 => ?_); clear f; clear H; have H:=H2; clear H2; simp (disch:=omega) only [go_sem,undef,H.cs, *])
    | ((with_reducible refine wrQ2 H fun _ f H2 => ?_); clear f; clear H; have H:=H2; clear H2; simp (disch:=omega) only [go_sem,undef,H.cs, *])
    | ((with_reducible refine wrQ3 H fun _ f H2 => ?_); clear f; clear H; have H:=H2; clear H2; simp (disch:=omega) only [go_sem,undef,H.cs, *])
    | ((with_reducible refine wrQ4 H fun _ f H2 => ?_); clear f; clear H; have H:=H2; clear H2; simp (disch:=omega) only [go_sem,undef,H.cs, *])
    | ((with_reducible refine wrQ5 H fun _ f H2 => ?_); clear f; clear H; have H:=H2; clear H2; simp (disch:=omega) only [go_sem,undef,H.cs, *])
    | ((with_reducible refine stwQ0 H ?hl ?h1 fun _ f H2 => ?_); (case hl => rfl); (case h1 => rfl); clear f; clear H; have H:=H2; clear H2; simp (disch:=omega) only [go_sem,undef,H.cs, *])
    | ((with_reducible refine stwQ1 H ?hl ?h1 fun _ f H2 => ?_); (case hl => rfl); (case h1 => rfl); clear f; clear H; have H:=H2; clear H2; simp (disch:=omega) only [go_sem,undef,H.cs, *])
    | ((with_reducible refine stwQ2 H ?hl ?h1 fun _ f H2 => ?_); (case hl => rfl); (case h1 => rfl); clear f; clear H; have H:=H2; clear H2; simp (disch:=omega) only [go_sem,undef,H.cs, *])
    | ((with_reducible refine stwQ3 H ?hl ?h1 fun _ f H2 => ?_); (case hl => rfl); (case h1 => rfl); clear f; clear H; have H:=H2; clear H2; simp (disch:=omega) only [go_sem,undef,H.cs, *])
    | ((with_reducible refine stwQ4 H ?hl ?h1 fun _ f H2 => ?_); (case hl => rfl); (case h1 => rfl); clear f; clear H; have H:=H2; clear H2; simp (disch:=omega) only [go_sem,undef,H.cs, *])
    | ((with_reducible refine stwQ5 H ?hl ?h1 fun _ f H2 => ?_); (case hl => rfl); (case h1 => rfl); clear f; clear H; have H:=H2; clear H2; simp (disch:=omega) only [go_sem,undef,H.cs, *])
    | ((with_reducible refine stQ0 H ?hl ?h1 fun _ f H2 => ?_); (case hl => exact Nat.le_of_ble_eq_true rfl); (case h1 => rfl); clear f; (simp only [go_sem] at H2); clear H; have H:=H2; clear H2; simp (disch:=omega) only [go_sem,undef,H.cs, *])
    | ((with_reducible refine stQ1 H ?hl ?h1 fun _ f H2 => ?_); (case hl => exact Nat.le_of_ble_eq_true rfl); (case h1 => rfl); clear f; (simp only [go_sem] at H2); clear H; have H:=H2; clear H2; simp (disch:=omega) only [go_sem,undef,H.cs, *])
    | ((with_reducible refine stQ2 H ?hl ?h1 fun _ f H2 => ?_); (case hl => exact Nat.le_of_ble_eq_true rfl); (case h1 => rfl); clear f; (simp only [go_sem] at H2); clear H; have H:=H2; clear H2; simp (disch:=omega) only [go_sem,undef,H.cs, *])
    | ((with_reducible refine stQ3 H ?hl ?h1 fun _ f H2 => ?_); (case hl => exact Nat.le_of_ble_eq_true rfl); (case h1 => rfl); clear f; (simp only [go_sem] at H2); clear H; have H:=H2; clear H2; simp (disch:=omega) only [go_sem,undef,H.cs, *])
    | ((with_reducible refine callN H (pack_Num_w (RdS.nil bc_len _) (by simp) _ (by omega)) fun _ _ _ e f H2 => ?_); subst e; clear f; clear H; have H:=H2; clear H2; simp (disch:=omega) only [go_sem,undef,H.cs, *])
    | ((with_reducible refine tN0 H (fun h => pack_Num_w (byA_rd h) (by grind [numB_len,ballB_len,cmdB_len,attB_len,List.length_append,List.length_nil]) _ (by omega)) fun _ _ _ e f H2 => ?_); subst e; clear f; clear H; have H:=H2; clear H2; simp (disch:=omega) only [go_sem,undef,H.cs, *])
    | ((with_reducible refine tN1 H (fun h => pack_Num_w (byA_rd h) (by grind [numB_len,ballB_len,cmdB_len,attB_len,List.length_append,List.length_nil]) _ (by omega)) fun _ _ _ e f H2 => ?_); subst e; clear f; clear H; have H:=H2; clear H2; simp (disch:=omega) only [go_sem,undef,H.cs, *])
    | ((with_reducible refine tN2 H (fun h => pack_Num_w (byA_rd h) (by grind [numB_len,ballB_len,cmdB_len,attB_len,List.length_append,List.length_nil]) _ (by omega)) fun _ _ _ e f H2 => ?_); subst e; clear f; clear H; have H:=H2; clear H2; simp (disch:=omega) only [go_sem,undef,H.cs, *])
    | ((with_reducible refine tN0 H (fun h => letter_PutCell_w (byA_rd h) (by grind [numB_len,ballB_len,cmdB_len,attB_len,List.length_append,List.length_nil]) _ hc) fun _ _ _ e f H2 => ?_); subst e; clear f; clear H; have H:=H2; clear H2; simp (disch:=omega) only [go_sem,undef,H.cs, *])
    | ((with_reducible refine tN1 H (fun h => letter_PutCell_w (byA_rd h) (by grind [numB_len,ballB_len,cmdB_len,attB_len,List.length_append,List.length_nil]) _ hc) fun _ _ _ e f H2 => ?_); subst e; clear f; clear H; have H:=H2; clear H2; simp (disch:=omega) only [go_sem,undef,H.cs, *])
    | ((with_reducible refine tN2 H (fun h => letter_PutCell_w (byA_rd h) (by grind [numB_len,ballB_len,cmdB_len,attB_len,List.length_append,List.length_nil]) _ hc) fun _ _ _ e f H2 => ?_); subst e; clear f; clear H; have H:=H2; clear H2; simp (disch:=omega) only [go_sem,undef,H.cs, *])
    | ((with_reducible refine gQ_split (fun hq => ?_) (fun hq => ?_)) <;> (try simp only [Bool.not_true,Bool.not_false] at hq) <;> simp (disch:=omega) only [go_sem,undef,H.cs, *])
    | ((with_reducible refine condB_split (fun hq => ?_) (fun hq => ?_)) <;> simp (disch:=omega) only [go_sem,undef,H.cs, *]))
  exact post_intro (CN_end H (by simp [recB,ballB]))
end Go.Fw
namespace Go.Fw
open Go.Proofs
variable {m:Mem}
end Go.Fw
