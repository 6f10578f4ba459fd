import Derived.Test.YtimedjfpihdffaaGreatCtX
import Derived.Test.YtimedjfpihdffaaGreatPk
set_option linter.unusedVariables false
set_option linter.unusedSimpArgs false
set_option maxHeartbeats 16000000
namespace Go.Fw
open Go.Proofs
theorem qxq{α:Type}[BEq α][LawfulBEq α]:∀ (l r:List α),l.Nodup→(∀ x∈l,x∈r)→l.length≤r.length
 | [],_,_,_=>by simp
 | x::l,r,hn,hs=>by
  have hx:=hs x (List.mem_cons_self ..)
  obtain ⟨h1,h2⟩:=List.nodup_cons.1 hn
  have:=qxq l (r.erase x) h2 λy hy=>(List.mem_erase_of_ne (λe=>by subst e;exact h1 hy)).2 (hs y (List.mem_cons_of_mem _ hy))
  rw [List.length_erase_of_mem hx] at this
  have:=List.length_pos_of_mem hx
  simp only [List.length_cons];omega
end Go.Fw
namespace Go.Fw
open Go.Proofs
variable {n i:Nat} {k T:Int} {base:List (List UInt8)} {C:Co}
end Go.Fw
namespace Go.Fw
open Go.Proofs
variable {n i:Nat} {k T:Int} {base:List (List UInt8)} {C:Co}
end Go.Fw
namespace Go.Fw
open Go.Proofs
variable {n i j:Nat} {k:List (List UInt8)} {C:Co} {W W':Wd} {x:Mv}
theorem HL{α:Type}{l:List α}{i:Nat}{a:α}(h:l[i]?=some a):l.set i a=l:=by
 apply List.ext_getElem?
 intro t
 by_cases e:i=t
 ·subst e;rw [List.getElem?_set_self (List.getElem?_eq_some_iff.1 h).1,h]
 ·rw [List.getElem?_set_ne e]
theorem Mm{T:Int}(h0:0≤T):∀ (l:List ((Int×Int)×Nat)) (C:Co),(∀ w∈C.wishes,0≤w.ticks∧w.ticks≤T)→∀ w∈(l.foldl (λC p=>C.XP p.2 p.1) C).wishes,0≤w.ticks∧w.ticks≤T
 | [],C,h=>h
 | p::r,C,h=>by
  refine Mm h0 r (C.XP p.2 p.1) ?_
  unfold Co.XP
  split
  ·unfold Co.want
   split
   ·intro w hw
    rcases Ex (show w∈zq _ _ _ from hw) with rfl | hw
    ·exact ⟨Int.le_refl _,h0⟩
    ·exact h w hw
   ·exact h
  ·exact h
end Go.Fw
