import Derived.Test.YtimedjfpihdffaaGreatCqY
set_option linter.unusedVariables false
set_option linter.unusedSimpArgs false
namespace Go.Fw
open Go.Proofs
/-! worlds in plain words -/
def roomB:Int:=1048576
def Wd.take1 (W:Wd) (x:Lt):Wd:=match W.cores[x.dst.toNat]? with
  | some C => W.put x.dst.toNat (C.take 0 x).1
  | none => W
def Wd.takes (W:Wd) (l:List Lt):Wd:=l.foldl Wd.take1 W
def Wd.drains (W:Wd) (room:Int):Nat → Wd
  | 0 => W
  | j + 1 => (W.drains room j).drain j room
structure Shp (W:Wd) (n:Nat) (f:Nat → Co) (l:List Lt):Prop where
  num:W.n = n
  cores:W.cores = (List.range n).map f
  kept:W.kept.length = n
  on:W.on = l
variable {W:Wd} {n:Nat} {f:Nat → Co} {l:List Lt}
theorem Shp.get (h:Shp W n f l) {k:Nat} (hk:k < n):W.cores[k]? = some (f k):=by
  rw [h.cores,List.getElem?_map,List.getElem?_range hk]; rfl
theorem map_set (n:Nat) (f:Nat → Co) (k:Nat) (C:Co):((List.range n).map f).set k C = (List.range n).map fun j => if j = k then C else f j:=by
  apply List.ext_getElem?
  intro j
  by_cases hj:j < n
  · by_cases e:j = k
    · subst e
      rw [List.getElem?_set_self (by simpa using hj),List.getElem?_map,List.getElem?_range hj]; simp
    · rw [List.getElem?_set_ne (Ne.symm e),List.getElem?_map,List.getElem?_map,List.getElem?_range hj]; simp [e]
  · rw [List.getElem?_eq_none (by simp; omega),List.getElem?_eq_none (by simp; omega)]
theorem Shp.put (h:Shp W n f l) (k:Nat) (C:Co):Shp (W.put k C) n (fun j => if j = k then C else f j) l :=
  ⟨h.num,by show W.cores.set k C = _; rw [h.cores,map_set],h.kept,h.on⟩
theorem Shp.ext {g:Nat → Co} (h:Shp W n f l) (e:∀ k,k < n → f k = g k):Shp W n g l :=
  ⟨h.num,by rw [h.cores]; exact List.map_congr_left fun k hk => e k (List.mem_range.1 hk),h.kept,h.on⟩
theorem Shp.drain (h:Shp W n f l) {k:Nat} (hk:k < n) {room:Int} (hl:(l.length:Int) < room):Shp (W.drain k room) n (fun j => if j = k then (f k).drained else f j) (l ++ (f k).out):=by
  have hC:=h.get hk
  have hk2:k < W.kept.length:=by rw [h.kept]; exact hk
  unfold Wd.drain
  rw [hC,List.getElem?_eq_getElem hk2]
  refine ⟨h.num, ?_,by simp [h.kept], ?_⟩
  · show W.cores.set k _ = _
    rw [h.cores,map_set]
  · show (if (W.on.length:Int) < room then W.on ++ (f k).out else W.on) = _
    rw [h.on,if_pos hl]
theorem Shp.drains (h:Shp W n f l) {room:Int} (hl:∀ j,j ≤ n → ((l ++ (List.range j).flatMap fun k => (f k).out).length:Int) < room):∀ j,j ≤ n → Shp (W.drains room j) n (fun k => if k < j then (f k).drained else f k) (l ++ (List.range j).flatMap fun k => (f k).out)
  | 0,_ => by
    have:=h.ext (g:=fun k => if k < 0 then (f k).drained else f k) (fun k _ => by simp)
    simpa [Wd.drains] using this
  | j + 1,hj => by
    have ih:=Shp.drains h hl j (by omega)
    have h2:=ih.drain (k:=j) (by omega) (hl j (by omega))
    simp only [Nat.lt_irrefl,if_false] at h2
    have h3:=h2.ext (g:=fun k => if k < j + 1 then (f k).drained else f k) (fun k _ => by
      by_cases e:k = j
      · subst e; simp
      · by_cases e2:k < j
        · simp [e,e2,Nat.lt_succ_of_lt e2]
        · have:¬ k < j + 1:=by omega
          simp [e,e2,this])
    have e4:(l ++ (List.range j).flatMap fun k => (f k).out) ++ (f j).out = l ++ (List.range (j + 1)).flatMap fun k => (f k).out:=by
      rw [List.range_succ,List.flatMap_append,List.append_assoc]; simp
    rw [e4] at h3
    exact h3
theorem Shp.take1 (h:Shp W n f l) (x:Lt) {k:Nat} (hx:x.dst = (k:Nat)) (hk:k < n):Shp (W.take1 x) n (fun j => if j = k then ((f k).take 0 x).1 else f j) l:=by
  have hC:=h.get hk
  unfold Wd.take1
  rw [hx,Int.toNat_natCast,hC]
  exact h.put k _
/-- letters to as many as there are -/
theorem Shp.takes (g:Nat → Lt) (hg:∀ k,(g k).dst = (k:Nat)):∀ (O:List Nat) {W:Wd} {f:Nat → Co},Shp W n f l → O.Nodup → (∀ k ∈ O,k < n) → Shp (W.takes (O.map g)) n (fun k => if k ∈ O then ((f k).take 0 (g k)).1 else f k) l
  | [],W,f,h,_,_ => by simpa [Wd.takes] using h
  | a :: r,W,f,h,hn,hlt => by
    have h1:=h.take1 (g a) (hg a) (hlt a (List.mem_cons_self ..))
    have h2:=Shp.takes g hg r h1 (List.nodup_cons.1 hn).2 fun k hk => hlt k (List.mem_cons_of_mem _ hk)
    have hna:=(List.nodup_cons.1 hn).1
    refine h2.ext fun k _ => ?_
    by_cases e:k = a
    · subst e; simp [hna]
    · simp [e]
/-- letters to one -/
theorem Shp.takes1 {i:Nat} (hi:i < n):∀ (L:List Lt) {W:Wd} {f:Nat → Co},Shp W n f l → (∀ x ∈ L,x.dst = (i:Nat)) → Shp (W.takes L) n (fun k => if k = i then L.foldl (fun C x => (C.take 0 x).1) (f i) else f k) l
  | [],W,f,h,_ => by
    refine h.ext fun k _ => ?_
    by_cases e:k = i
    · subst e; simp
    · simp [e]
  | x :: r,W,f,h,hx => by
    have h1:=h.take1 x (hx x (List.mem_cons_self ..)) hi
    have h2:=Shp.takes1 hi r h1 fun y hy => hx y (List.mem_cons_of_mem _ hy)
    refine h2.ext fun k _ => ?_
    by_cases e:k = i
    · subst e; simp
    · simp [e]
/-- all others -/
def othN (n i:Nat):List Nat:=(List.range n).filter fun k => decide (k ≠ i)
theorem othN_nodup (n i:Nat):(othN n i).Nodup:=List.nodup_range.filter _
theorem othN_mem {n i k:Nat}:k ∈ othN n i ↔ k < n ∧ k ≠ i:=by simp [othN]
theorem all_out (C:Co) (x:Lt):∀ j,(C.allN x Dp.zero j).out = C.out ++ (othN j C.me).map fun k => { x with src:=C.me,dst:=(k:Nat) }
  | 0 => by simp [Co.allN,othN]
  | j + 1 => by
    have ih:=all_out C x j
    have hm:=(allN_me C x Dp.zero j).1
    have hz:Dp.zero.g j = 0:=by unfold Dp.g Dp.zero; split <;> rfl
    unfold Co.allN
    by_cases e:j = C.me
    · rw [if_neg (fun h => h.1 e),ih]
      have:othN (j + 1) C.me = othN j C.me:=by unfold othN; rw [List.range_succ,List.filter_append]; simp [e]
      rw [this]
    · rw [if_pos ⟨e,hz⟩]
      show (C.allN x Dp.zero j).out ++ [{ x with src:=((C.allN x Dp.zero j).me:Nat),dst:=(j:Nat) }] = _
      rw [ih,hm]
      have:othN (j + 1) C.me = othN j C.me ++ [j]:=by unfold othN; rw [List.range_succ,List.filter_append]; simp [e]
      rw [this,List.map_append,List.append_assoc]; rfl
theorem all_rest (C:Co) (x:Lt) (ans:Dp) (j:Nat):C.allN x ans j = { C with out:=(C.allN x ans j).out }:=by
  induction j with
  | zero => rfl
  | succ j ih =>
    unfold Co.allN
    split
    · rw [ih]; rfl
    · exact ih
theorem all_eq (C:Co) (x:Lt):C.all x Dp.zero = { C with out:=C.out ++ (othN C.n C.me).map fun k => { x with src:=C.me,dst:=(k:Nat) } }:=by
  unfold Co.all
  rw [all_rest,all_out]
end Go.Fw
namespace Go.Fw
open Go.Proofs
/-! one command, none lost -/
theorem z_g (k:Nat):Dp.zero.g k = 0:=by unfold Dp.g Dp.zero; split <;> rfl
def cut0:Dp:=trimD Dp.zero Dp.zero
theorem cut0_g (k:Nat):cut0.g k = 0:=by
  unfold Dp.g
  split
  · show max (0:Int) (min (max 0 0) 1073741824) = 0; decide
  · rfl
theorem join_zz:joinA Att.zero Att.zero = Att.zero:=by
  unfold joinA Att.zero Dp.zero; simp
theorem attr_nil (i:Nat) (x:Cmd):attrF cut0 [] ((i:Nat),1) x = Att.zero:=by
  have h0:attr0 [] ((i:Nat),1) x = Att.zero:=rfl
  unfold attrF
  rw [h0]
  have:attrD cut0 ((i:Nat),1) Att.zero.deps = Dp.zero:=Dp.ext_g fun j hj => by
    rw [attrD_g _ _ _ _ hj,cut0_g,z_g]
    simp only [Att.zero,z_g]
    split
    · simp
    · split <;> simp
  rw [this]
def fId (i:Nat):Int × Int:=((i:Nat),1)
theorem fId_right {i:Nat} (h:i < 7):rightI (fId i):=⟨by simp [fId],by simp [fId]; omega,by simp [fId],by simp [fId]⟩
def fC1 (x:Cmd):Cel:=⟨1,(0,0),(0,0),x,Att.zero,true⟩
def fC3 (x:Cmd):Cel:=⟨3,(0,0),(0,0),x,Att.zero,false⟩
theorem zr:rightA Att.zero:=⟨fun i => ⟨Int.le_refl _,show (0:Int) ≤ 1073741824 by decide⟩,by decide,by decide⟩
theorem fC1_right {x:Cmd} (h:x.right):(fC1 x).right:=⟨show (0:Int) ≤ 1 by decide,show (1:Int) ≤ 3 by decide,show rightB (0,0) by decide,show rightB (0,0) by decide,show ¬ lt2 (0,0) (0,0) by decide,fun _ => ⟨rfl,rfl⟩,fun h => absurd h (show ¬ (1:Int) = 0 by decide),h,zr⟩
theorem fC3_right {x:Cmd} (h:x.right):(fC3 x).right:=⟨show (0:Int) ≤ 3 by decide,show (3:Int) ≤ 3 by decide,show rightB (0,0) by decide,show rightB (0,0) by decide,show ¬ lt2 (0,0) (0,0) by decide,fun h => absurd h (show ¬ false = true by decide),fun h => absurd h (show ¬ (3:Int) = 0 by decide),h,zr⟩
def preL (i k:Nat) (x:Cmd):Lt:={ Lt.zero with kind:=1,src:=(i:Nat),dst:=(k:Nat),inst:=fId i,cmd:=x,att:=Att.zero }
def okPL (i k:Nat):Lt:={ Lt.zero with kind:=2,src:=(k:Nat),dst:=(i:Nat),inst:=fId i,att:=Att.zero }
def comL (i k:Nat) (x:Cmd):Lt:={ Lt.zero with kind:=5,src:=(i:Nat),dst:=(k:Nat),inst:=fId i,cmd:=x,att:=Att.zero }
theorem celz_right:Cel.zero.right:=⟨by decide,by decide,by decide,by decide,by decide,fun h => absurd h (show ¬ false = true by decide),fun _ => rfl,.inl rfl,zr⟩
theorem preL_right {i k:Nat} {x:Cmd} (hi:i < 7) (hk:k < 7) (hik:k ≠ i) (hx:x.right):(preL i k x).right :=
  ⟨show (1:Int) ≤ 1 ∧ (1:Int) ≤ 11 by decide,⟨by simp [preL],by simp [preL]; omega⟩,⟨by simp [preL],by simp [preL]; omega⟩,by simp [preL]; omega,rfl,fun _ => fId_right hi,show rightB (0,0) by decide,hx,zr,celz_right,zr,show noB.size ≤ 16384 by decide⟩
theorem okPL_right {i k:Nat} (hi:i < 7) (hk:k < 7) (hik:k ≠ i):(okPL i k).right :=
  ⟨show (1:Int) ≤ 2 ∧ (2:Int) ≤ 11 by decide,⟨by simp [okPL],by simp [okPL]; omega⟩,⟨by simp [okPL],by simp [okPL]; omega⟩,by simp [okPL]; omega,rfl,fun _ => fId_right hi,show rightB (0,0) by decide,.inl rfl,zr,celz_right,zr,show noB.size ≤ 16384 by decide⟩
theorem comL_right {i k:Nat} {x:Cmd} (hi:i < 7) (hk:k < 7) (hik:k ≠ i) (hx:x.right):(comL i k x).right :=
  ⟨show (1:Int) ≤ 5 ∧ (5:Int) ≤ 11 by decide,⟨by simp [comL],by simp [comL]; omega⟩,⟨by simp [comL],by simp [comL]; omega⟩,by simp [comL]; omega,rfl,fun _ => fId_right hi,show rightB (0,0) by decide,hx,zr,celz_right,zr,show noB.size ≤ 16384 by decide⟩
/-- others: new, the proposal taken, the commit taken -/
def fK1 (n i k:Nat) (x:Cmd):Co:={ Co.new n k Dp.zero with lg:=[(fId i,fC1 x)],xl:=[(fId i,⟨x,0⟩)],recs:=[recB (fId i) (fC1 x)],out:=[okPL i k] }
def fK2 (n i k:Nat) (x:Cmd):Co:={ Co.new n k Dp.zero with lg:=[(fId i,fC3 x)],xl:=[(fId i,⟨x,0⟩)],recs:=[recB (fId i) (fC3 x)] }
/-- the owner: proposed, some answers in, committed -/
def fLd (i:Nat) (x:Cmd) (d:Dp) (j:Nat):Ld:=⟨fId i,0,(0,0),true,x,Att.zero,d,List.replicate j Att.zero,[],(j:Nat),0⟩
def fA1 (n i:Nat) (x:Cmd):Co:={ Co.new n i Dp.zero with lg:=[(fId i,fC1 x)],xl:=[(fId i,⟨x,0⟩)],recs:=[recB (fId i) (fC1 x)],leads:=[fLd i x Dp.zero 0],out:=(othN n i).map fun k => preL i k x }
def fAj (n i:Nat) (x:Cmd) (d:Dp) (j:Nat):Co:={ Co.new n i Dp.zero with lg:=[(fId i,fC1 x)],xl:=[(fId i,⟨x,0⟩)],leads:=[fLd i x d j] }
def fA2 (n i:Nat) (x:Cmd):Co:={ Co.new n i Dp.zero with lg:=[(fId i,fC3 x)],xl:=[(fId i,⟨x,0⟩)],recs:=[recB (fId i) (fC3 x)],out:=(othN n i).map fun k => comL i k x }
theorem mayS_new {i:Nat} (hi:i < 7) {c:Cel} (hc:c.right):mayS cut0 [] (fId i) c:=⟨fId_right hi,by rw [cut0_g]; simp [fId],hc,trivial⟩
theorem mayN_new {i:Nat} (hi:i < 7) {x:Cmd} (hx:x.right):mayN cut0 (fId i) x 0:=⟨fId_right hi,by rw [cut0_g]; simp [fId],hx,by decide,by decide⟩
theorem mayS_com {i:Nat} (hi:i < 7) {x:Cmd} (hx:x.right):mayS cut0 [(fId i,fC1 x)] (fId i) (fC3 x):=by
  refine ⟨fId_right hi,by rw [cut0_g]; simp [fId],fC3_right hx, ?_⟩
  have:lkC (fId i) [(fId i,fC1 x)] = some (fC1 x):=by simp [lkC]
  rw [this]
  show mayC (fC1 x) (fC3 x)
  unfold mayC
  exact ⟨fun h => absurd h.1 (show ¬ (1:Int) = 3 by decide),show ¬ lt2 (0,0) (0,0) by decide,show ¬ lt2 (0,0) (0,0) by decide,.inl (show (1:Int) ≤ 3 by decide)⟩
theorem set_new {C:Co} {i:Nat} (hi:i < 7) {x:Cmd} (hx:x.right) (hcut:C.cut = cut0) (hxc:C.xcut = cut0) (hlg:C.lg = []) (hxl:C.xl = []) :
    C.set (fId i) (fC1 x) = ({ C with lg:=[(fId i,fC1 x)],xl:=[(fId i,⟨x,0⟩)],recs:=C.recs ++ [recB (fId i) (fC1 x)] },true):=by
  have hm:mayS C.cut C.lg (fId i) (fC1 x):=by rw [hcut,hlg]; exact mayS_new hi (fC1_right hx)
  have hu:upC (fId i) (fC1 x) C.lg = [(fId i,fC1 x)]:=by rw [hlg]; rfl
  have hn:mayN C.xcut (fId i) x 0:=by rw [hxc]; exact mayN_new hi hx
  have hv:upN (fId i) ⟨x,0⟩ C.xl = [(fId i,⟨x,0⟩)]:=by rw [hxl]; rfl
  unfold Co.set
  rw [if_pos hm,hu]
  unfold Co.note
  rw [if_pos (show (fC1 x).st ≠ 0 from (show (1:Int) ≠ 0 by decide))]
  show (({ C with lg:=[(fId i,fC1 x)],recs:=C.recs ++ [recB (fId i) (fC1 x)],xl:=if mayN C.xcut (fId i) x 0 then upN (fId i) ⟨x,0⟩ C.xl else C.xl }:Co),true) = _
  rw [if_pos hn,hv]
theorem set_com {C:Co} {i:Nat} (hi:i < 7) {x:Cmd} (hx:x.right) (hcut:C.cut = cut0) (hxc:C.xcut = cut0) (hlg:C.lg = [(fId i,fC1 x)]) (hxl:C.xl = [(fId i,⟨x,0⟩)]) :
    C.set (fId i) (fC3 x) = ({ C with lg:=[(fId i,fC3 x)],recs:=C.recs ++ [recB (fId i) (fC3 x)] },true):=by
  have hm:mayS C.cut C.lg (fId i) (fC3 x):=by rw [hcut,hlg]; exact mayS_com hi hx
  have hu:upC (fId i) (fC3 x) C.lg = [(fId i,fC3 x)]:=by rw [hlg]; simp [upC,keysC]
  have hn:mayN C.xcut (fId i) x 0:=by rw [hxc]; exact mayN_new hi hx
  have hv:upN (fId i) ⟨x,0⟩ C.xl = C.xl:=by rw [hxl]; simp [upN,keysN]
  unfold Co.set
  rw [if_pos hm,hu]
  unfold Co.note
  rw [if_pos (show (fC3 x).st ≠ 0 from (show (3:Int) ≠ 0 by decide))]
  show (({ C with lg:=[(fId i,fC3 x)],recs:=C.recs ++ [recB (fId i) (fC3 x)],xl:=if mayN C.xcut (fId i) x 0 then upN (fId i) ⟨x,0⟩ C.xl else C.xl }:Co),true) = _
  rw [if_pos hn,hv]
end Go.Fw
namespace Go.Fw
open Go.Proofs
variable {n i k:Nat} {x:Cmd}
theorem prop_fast (hn:i < n) (hn7:n ≤ 7) (hx:x.right) (hk:x.kind ≠ 0):(Co.new n i Dp.zero).propose x = (fA1 n i x,.tuple #[pv (fId i),.bool true]):=by
  have hnx:(Co.new n i Dp.zero).next = fId i:=by
    show ((i:Int),cut0.g i + 1) = fId i
    rw [cut0_g]; rfl
  unfold Co.propose
  rw [hnx]
  have hc:¬ (¬ x.right ∨ x.kind = 0 ∨ (fId i).2 > 1073741824 ∨ 256 ≤ (Co.new n i Dp.zero).leads.length):=by
    rintro (h | h | h | h)
    · exact h hx
    · exact hk h
    · simp [fId] at h
    · simp [Co.new] at h
  rw [if_neg hc]
  have ha:attrF (Co.new n i Dp.zero).xcut (Co.new n i Dp.zero).xl (fId i) x = Att.zero:=attr_nil i x
  rw [ha]
  unfold Co.prop2
  rw [if_pos zr]
  have hs:(Co.new n i Dp.zero).set (fId i) ⟨1,(0,0),(0,0),x,Att.zero,true⟩ = _:=set_new (C:=Co.new n i Dp.zero) (x:=x) (i:=i) (by omega) hx rfl rfl rfl rfl
  rw [hs]
  have hb:∀ C:Co,C.leads = [] → C.beginE (newLd (fId i) 0 (0,0) true x Att.zero) = { C with leads:=[fLd i x Dp.zero 0],out:=C.out ++ (othN C.n C.me).map fun k => { (newLd (fId i) 0 (0,0) true x Att.zero).ask with src:=(C.me:Nat),dst:=(k:Nat) } }:=by
    intro C h
    unfold Co.beginE
    have ht:C.takeE (newLd (fId i) 0 (0,0) true x Att.zero) = { C with leads:=[fLd i x Dp.zero 0] }:=by
      unfold Co.takeE Co.leave
      rw [h]; rfl
    rw [ht]
    exact all_eq _ _
  rw [hb _ rfl]
  rfl
theorem notBars {C:Co} {y:Lt} (hy:y.right) (h1:y.dst = C.me) (h2:oneC C.n y.src) (h3:y.kind < 9) (h4:oneC C.n y.inst.1):¬ C.bars y:=by
  rintro (h | h | h | h | h)
  · exact h hy
  · exact h h1
  · exact h h2
  · omega
  · exact h h4
theorem notGone {C:Co} {y:Int × Int} (hc:C.cut = cut0) (h:0 < y.2):¬ C.gone y:=by
  rintro ⟨_,h2⟩
  rw [hc,cut0_g] at h2; omega
theorem fId_one (hi:i < n):oneC n (fId i).1:=⟨by simp [fId],by simp [fId]; omega⟩
theorem new_at (n k:Nat) (y:Int × Int):(lkC y (Co.new n k Dp.zero).lg).getD Cel.zero = Cel.zero:=rfl
theorem pre_fast (hi:i < n) (hk:k < n) (hik:k ≠ i) (hn7:n ≤ 7) (hx:x.right):(Co.new n k Dp.zero).take 0 (preL i k x) = (fK1 n i k x,false):=by
  have hr:=preL_right (i:=i) (k:=k) (x:=x) (by omega) (by omega) hik hx
  unfold Co.take
  rw [if_neg (notBars hr rfl ⟨by simp [preL],by simp [preL,Co.new]; omega⟩ (show (1:Int) < 9 by decide) (fId_one hi)),if_neg (notGone (y:=(preL i k x).inst) rfl (show (0:Int) < 1 by decide))]
  have e:(Co.new n k Dp.zero).take2 0 (preL i k x) = fK1 n i k x:=by
    unfold Co.take2
    rw [if_pos (show asksL (preL i k x) from .inl rfl)]
    unfold Co.asked
    rw [new_at]
    unfold Co.ask2
    rw [if_neg (show ¬ Cel.zero.st = 3 by decide),if_neg (show ¬ lt2 (preL i k x).bal Cel.zero.pr from (show ¬ lt2 (0,0) (0,0) by decide))]
    have hy:(Co.new n k Dp.zero).yields (preL i k x).inst (preL i k x).bal = Co.new n k Dp.zero:=rfl
    rw [hy]
    have ho:ownB (preL i k x) Cel.zero = false:=rfl
    rw [ho]
    unfold Co.ask3
    rw [if_pos (show (preL i k x).kind = 1 from rfl)]
    unfold Co.pre
    rw [if_neg (by decide)]
    have ha:joinA (preL i k x).att (attrF (Co.new n k Dp.zero).xcut (Co.new n k Dp.zero).xl (preL i k x).inst (preL i k x).cmd) = Att.zero:=by
      rw [show attrF (Co.new n k Dp.zero).xcut (Co.new n k Dp.zero).xl (preL i k x).inst (preL i k x).cmd = Att.zero from attr_nil i x]
      exact join_zz
    rw [ha]
    unfold Co.pre2
    rw [if_pos zr]
    have hd:decide ((preL i k x).bal = (0,0) ∧ Att.zero = (preL i k x).att) = true:=decide_eq_true ⟨rfl,rfl⟩
    rw [hd]
    have hs:(Co.new n k Dp.zero).set (preL i k x).inst ⟨1,(preL i k x).bal,(preL i k x).bal,(preL i k x).cmd,Att.zero,true⟩ = _:=set_new (C:=Co.new n k Dp.zero) (x:=x) (i:=i) (by omega) hx rfl rfl rfl rfl
    rw [hs]
    rfl
  rw [e]
theorem com_fast (hi:i < n) (hk:k < n) (hik:k ≠ i) (hn7:n ≤ 7) (hx:x.right):(fK1 n i k x).drained.take 0 (comL i k x) = (fK2 n i k x,false):=by
  have hr:=comL_right (i:=i) (k:=k) (x:=x) (by omega) (by omega) hik hx
  unfold Co.take
  rw [if_neg (notBars hr rfl ⟨by simp [comL],by simp [comL,fK1,Co.drained,Co.new]; omega⟩ (show (5:Int) < 9 by decide) (fId_one hi)),if_neg (notGone (y:=(comL i k x).inst) rfl (show (0:Int) < 1 by decide))]
  have e:(fK1 n i k x).drained.take2 0 (comL i k x) = fK2 n i k x:=by
    unfold Co.take2
    rw [if_neg (show ¬ asksL (comL i k x) by simp [asksL,comL]),if_pos (show (comL i k x).kind = 5 from rfl)]
    unfold Co.told
    have ha:(lkC (comL i k x).inst (fK1 n i k x).drained.lg).getD Cel.zero = fC1 x:=by
      show (lkC (fId i) [(fId i,fC1 x)]).getD Cel.zero = fC1 x
      simp [lkC]
    rw [ha]
    unfold Co.told2
    rw [if_neg (show ¬ (fC1 x).st = 3 from (show ¬ (1:Int) = 3 by decide))]
    have hs:((fK1 n i k x).drained.leave (comL i k x).inst).set (comL i k x).inst ⟨3,(fC1 x).pr,(fC1 x).vo,(comL i k x).cmd,(comL i k x).att,false⟩ = _:=set_com (C:=(fK1 n i k x).drained.leave (fId i)) (x:=x) (i:=i) (by omega) hx rfl rfl rfl rfl
    rw [hs]
    rfl
  rw [e]
theorem same_rep (j:Nat):sameN Att.zero (List.replicate j Att.zero) = j:=by
  unfold sameN
  rw [List.countP_replicate]; simp
theorem rep_snoc (j:Nat):List.replicate j Att.zero ++ [Att.zero] = List.replicate (j + 1) Att.zero:=by rw [List.replicate_succ']
theorem heard_eq (d:Dp) (j k:Nat):((fLd i x d j).heard k).repd (okPL i k).att = fLd i x (Dp.up d k 1) (j + 1):=by
  show (⟨fId i,0,(0,0),true,x,Att.zero,Dp.up d k 1,List.replicate j Att.zero ++ [Att.zero],[],((j:Nat):Int) + 1,0⟩:Ld) = _
  rw [rep_snoc]; rfl
theorem ans_fast {d:Dp} {j:Nat} (hi:i < n) (hk:k < n) (hik:k ≠ i) (hn7:n ≤ 7) (hd:d.g k = 0) :
    (fAj n i x d j).take 0 (okPL i k) = (((fAj n i x (Dp.up d k 1) (j + 1)).weigh (fLd i x (Dp.up d k 1) (j + 1)) false).1,false):=by
  have hr:=okPL_right (i:=i) (k:=k) (by omega) (by omega) hik
  unfold Co.take
  rw [if_neg (notBars hr rfl ⟨by simp [okPL],by simp [okPL,fAj,Co.new]; omega⟩ (show (2:Int) < 9 by decide) (fId_one hi)),if_neg (notGone (y:=(okPL i k).inst) rfl (show (0:Int) < 1 by decide))]
  have e:(fAj n i x d j).take2 0 (okPL i k) = ((fAj n i x (Dp.up d k 1) (j + 1)).weigh (fLd i x (Dp.up d k 1) (j + 1)) false).1:=by
    unfold Co.take2
    rw [if_neg (show ¬ asksL (okPL i k) by simp [asksL,okPL]),if_neg (show ¬ (okPL i k).kind = 5 from (show ¬ (2:Int) = 5 by decide)),if_neg (show ¬ (okPL i k).kind = 8 from (show ¬ (2:Int) = 8 by decide))]
    unfold Co.answered
    have hf:fdL (okPL i k).inst (fAj n i x d j).leads = some 0:=by
      show fdL (fId i) [fLd i x d j] = some 0
      simp [fdL,fLd]
    have hsrc:(okPL i k).src.toNat = k:=by simp [okPL]
    rw [hf,hsrc]
    have hl:(fAj n i x d j).leads[0]? = some (fLd i x d j):=rfl
    simp only [Co.ans1,hl]
    rw [if_neg (show ¬ ((fLd i x d j).bal ≠ (okPL i k).bal ∨ (fLd i x d j).ans.g k ≠ 0) by
      rintro (h | h)
      · exact h rfl
      · exact h hd),if_neg (show ¬ (fLd i x d j).way ≠ wayK (okPL i k).kind from fun h => h rfl)]
    unfold Co.ans2
    rw [if_pos (show wayK (okPL i k).kind = 0 from rfl),heard_eq]
    rfl
  rw [e]
theorem wait_fast {d:Dp} {j:Nat} (hj:j + 2 < n):((fAj n i x d j).weigh (fLd i x d j) false).1 = fAj n i x d j:=by
  unfold Co.weigh
  have hq:preQ (fAj n i x d j).n (fLd i x d j).first (fLd i x d j).att (fLd i x d j).reps false = (0,Att.zero):=by
    show preQ n true Att.zero (List.replicate j Att.zero) false = (0,Att.zero)
    unfold preQ
    rw [same_rep,if_neg (by omega),if_pos (.inr ⟨rfl,rfl,by simp⟩)]
  rw [hq]
  rfl
theorem done_fast {d:Dp} {j:Nat} (hi:i < n) (hn7:n ≤ 7) (hx:x.right) (hj:n ≤ j + 2):((fAj n i x d j).weigh (fLd i x d j) false).1 = fA2 n i x:=by
  unfold Co.weigh
  have hq:preQ (fAj n i x d j).n (fLd i x d j).first (fLd i x d j).att (fLd i x d j).reps false = (1,Att.zero):=by
    show preQ n true Att.zero (List.replicate j Att.zero) false = (1,Att.zero)
    unfold preQ
    rw [same_rep,if_pos ⟨rfl,by omega⟩]
  rw [hq]
  show (fAj n i x d j).commit (fId i) x Att.zero = _
  unfold Co.commit
  have ha:(lkC (fId i) (fAj n i x d j).lg).getD Cel.zero = fC1 x:=by
    show (lkC (fId i) [(fId i,fC1 x)]).getD Cel.zero = fC1 x
    simp [lkC]
  rw [ha]
  unfold Co.com2
  have hlv:(fAj n i x d j).leave (fId i) = { Co.new n i Dp.zero with lg:=[(fId i,fC1 x)],xl:=[(fId i,⟨x,0⟩)] }:=by
    unfold Co.leave fAj
    simp [fLd,Co.new]
  rw [hlv]
  have hs:({ Co.new n i Dp.zero with lg:=[(fId i,fC1 x)],xl:=[(fId i,⟨x,0⟩)] }:Co).set (fId i) ⟨3,(fC1 x).pr,(fC1 x).vo,x,Att.zero,false⟩ = _:=set_com (C:={ Co.new n i Dp.zero with lg:=[(fId i,fC1 x)],xl:=[(fId i,⟨x,0⟩)] }) (x:=x) (i:=i) (by omega) hx rfl rfl rfl rfl
  rw [hs,if_pos rfl,all_eq]
  rfl
theorem late_fast (hi:i < n) (hk:k < n) (hik:k ≠ i) (hn7:n ≤ 7):(fA2 n i x).take 0 (okPL i k) = (fA2 n i x,false):=by
  have hr:=okPL_right (i:=i) (k:=k) (by omega) (by omega) hik
  unfold Co.take
  rw [if_neg (notBars hr rfl ⟨by simp [okPL],by simp [okPL,fA2,Co.new]; omega⟩ (show (2:Int) < 9 by decide) (fId_one hi)),if_neg (notGone (y:=(okPL i k).inst) rfl (show (0:Int) < 1 by decide))]
  have e:(fA2 n i x).take2 0 (okPL i k) = fA2 n i x:=by
    unfold Co.take2
    rw [if_neg (show ¬ asksL (okPL i k) by simp [asksL,okPL]),if_neg (show ¬ (okPL i k).kind = 5 from (show ¬ (2:Int) = 5 by decide)),if_neg (show ¬ (okPL i k).kind = 8 from (show ¬ (2:Int) = 8 by decide))]
    rfl
  rw [e]
theorem late_all (hi:i < n) (hn7:n ≤ 7):∀ (O:List Nat),(∀ k ∈ O,k < n ∧ k ≠ i) → (O.map (okPL i)).foldl (fun C y => (C.take 0 y).1) (fA2 n i x) = fA2 n i x
  | [],_ => rfl
  | a :: r,h => by
    have ha:=h a (List.mem_cons_self ..)
    rw [List.map_cons,List.foldl_cons,late_fast hi ha.1 ha.2 hn7]
    exact late_all hi hn7 r fun k hk => h k (List.mem_cons_of_mem _ hk)
theorem ans_all (hi:i < n) (hn7:n ≤ 7) (hx:x.right):∀ (O:List Nat) (d:Dp) (j:Nat),O.Nodup → (∀ k ∈ O,(k < n ∧ k ≠ i) ∧ d.g k = 0) → j + 2 < n → n ≤ j + O.length + 2 → (O.map (okPL i)).foldl (fun C y => (C.take 0 y).1) (fAj n i x d j) = fA2 n i x
  | [],d,j,_,_,h1,h2 => by simp at h2; omega
  | a :: r,d,j,hnd,h,h1,h2 => by
    have ha:=h a (List.mem_cons_self ..)
    have hr:=List.nodup_cons.1 hnd
    rw [List.map_cons,List.foldl_cons,ans_fast hi ha.1.1 ha.1.2 hn7 ha.2]
    by_cases hj:j + 1 + 2 < n
    · show (r.map (okPL i)).foldl _ (((fAj n i x (Dp.up d a 1) (j + 1)).weigh (fLd i x (Dp.up d a 1) (j + 1)) false).1) = _
      rw [wait_fast hj]
      refine ans_all hi hn7 hx r _ _ hr.2 (fun k hk => ?_) hj (by rw [List.length_cons] at h2; omega)
      have hk2:=h k (List.mem_cons_of_mem _ hk)
      refine ⟨hk2.1, ?_⟩
      rw [Dp.up_g,if_neg (fun (e:k = a ∧ k < 7) => hr.1 (e.1 ▸ hk))]
      exact hk2.2
    · show (r.map (okPL i)).foldl _ (((fAj n i x (Dp.up d a 1) (j + 1)).weigh (fLd i x (Dp.up d a 1) (j + 1)) false).1) = _
      rw [done_fast hi hn7 hx (by omega)]
      exact late_all hi hn7 r fun k hk => (h k (List.mem_cons_of_mem _ hk)).1
end Go.Fw
namespace Go.Fw
open Go.Proofs
variable {n i k:Nat} {x:Cmd}
/-- one round -/
def Wd.cleared (W:Wd):Wd:={ W with on:=[] }
def Wd.rnd (W:Wd) (i:Nat):Wd:=((W.drain i roomB).cleared.takes (W.drain i roomB).on).drains roomB W.n
theorem Shp.cleared {W:Wd} {f:Nat → Co} {l:List Lt} (h:Shp W n f l):Shp W.cleared n f []:=⟨h.num,h.cores,h.kept,rfl⟩
theorem flat_oth {α:Type} (n i:Nat) (g:Nat → α):((List.range n).flatMap fun k => if k = i then [] else [g k]) = (othN n i).map g:=by
  unfold othN
  induction n with
  | zero => rfl
  | succ n ih =>
    rw [List.range_succ,List.flatMap_append,List.filter_append,List.map_append,ih]
    by_cases e:n = i <;> simp [e]
theorem flat_one {α:Type} (n i:Nat) (hi:i < n) (l:List α):((List.range n).flatMap fun k => if k = i then l else []) = l:=by
  induction n with
  | zero => omega
  | succ n ih =>
    rw [List.range_succ,List.flatMap_append]
    by_cases e:n = i
    · subst e
      have:((List.range n).flatMap fun k => if k = n then l else []) = []:=by
        rw [List.flatMap_eq_nil_iff]
        intro k hk
        rw [if_neg]
        have:=List.mem_range.1 hk
        omega
      rw [this]; simp
    · rw [ih (by omega)]; simp [e]
theorem flatC_len {α:Type} {c:Nat} (g:Nat → List α) (h:∀ k,(g k).length ≤ c):∀ j,((List.range j).flatMap g).length ≤ j * c
  | 0 => by simp
  | j + 1 => by
    rw [List.range_succ,List.flatMap_append,List.length_append]
    have h1:=flatC_len g h j
    have h2:=h j
    simp only [List.flatMap_cons,List.flatMap_nil,List.append_nil]
    rw [Nat.add_mul]; omega
theorem oth_le (n i:Nat):(othN n i).length ≤ n:=by
  have:=List.length_filter_le (fun k => decide (k ≠ i)) (List.range n)
  rw [List.length_range] at this
  exact this
theorem oth_len (n i:Nat) (hi:i < n):(othN n i).length + 1 = n:=by
  unfold othN
  induction n with
  | zero => omega
  | succ n ih =>
    rw [List.range_succ,List.filter_append,List.length_append]
    by_cases e:n = i
    · subst e
      have:(List.range n).filter (fun k => decide (k ≠ n)) = List.range n:=List.filter_eq_self.2 fun k hk => by
        have:=List.mem_range.1 hk
        simp; omega
      rw [this]; simp
    · have:=ih (by omega)
      simp [e]; simp at this; omega
/-- rounds, from the shape -/
theorem Shp.rnd {W:Wd} {f f2:Nat → Co} {l:List Lt} (h:Shp W n f l) (hi:i < n) (hn7:n ≤ 7) (hl:l.length ≤ 100) (hfi:((f i).out).length ≤ 100)
    (ht:Shp ((W.drain i roomB).cleared.takes (l ++ (f i).out)) n f2 []) (ho:∀ k,(f2 k).out.length ≤ 100):Shp (W.rnd i) n (fun k => (f2 k).drained) ((List.range n).flatMap fun k => (f2 k).out):=by
  have h1:=h.drain hi (room:=roomB) (by unfold roomB; omega)
  unfold Wd.rnd
  rw [h1.on,h.num]
  have h2:=Shp.drains ht (room:=roomB) (fun j hj => by
    have:=flatC_len (fun k => (f2 k).out) ho j
    have h3:j * 100 ≤ 7 * 100:=Nat.mul_le_mul_right _ (by omega)
    rw [List.nil_append]
    unfold roomB; omega) n (Nat.le_refl _)
  rw [List.nil_append] at h2
  exact h2.ext fun k hk => by rw [if_pos hk]
def fR0 (n i:Nat) (x:Cmd) (k:Nat):Co:=if k = i then fA1 n i x else Co.new n k Dp.zero
def fR1 (n i:Nat) (x:Cmd) (k:Nat):Co:=if k = i then fAj n i x Dp.zero 0 else (fK1 n i k x).drained
def fR2 (n i:Nat) (x:Cmd) (k:Nat):Co:=if k = i then (fA2 n i x).drained else (fK1 n i k x).drained
def fR3 (n i:Nat) (x:Cmd) (k:Nat):Co:=if k = i then (fA2 n i x).drained else (fK2 n i k x).drained
theorem round1 {W:Wd} (h:Shp W n (fR0 n i x) []) (hi:i < n) (hn7:n ≤ 7) (hx:x.right):Shp (W.rnd i) n (fR1 n i x) ((othN n i).map (okPL i)):=by
  have e0:fR0 n i x i = fA1 n i x:=if_pos rfl
  have h1:=(h.drain hi (room:=roomB) (by decide)).cleared
  have h2:=Shp.takes (fun k => preL i k x) (fun k => rfl) (othN n i) h1 (othN_nodup n i) fun k hk => (othN_mem.1 hk).1
  have h3:Shp ((W.drain i roomB).cleared.takes ([] ++ (fR0 n i x i).out)) n (fun k => if k = i then fAj n i x Dp.zero 0 else fK1 n i k x) []:=by
    rw [e0,List.nil_append]
    refine h2.ext fun k hk => ?_
    by_cases e:k = i
    · subst e
      rw [if_neg (fun h => (othN_mem.1 h).2 rfl),if_pos rfl,if_pos rfl,e0]; rfl
    · rw [if_pos (othN_mem.2 ⟨hk,e⟩),if_neg e,if_neg e]
      have:fR0 n i x k = Co.new n k Dp.zero:=if_neg e
      rw [this,pre_fast hi hk e hn7 hx]
  have h4:=h.rnd hi hn7 (by simp) (by rw [e0]; simp [fA1]; have:=oth_le n i; omega) h3 (fun k => by
    by_cases e:k = i
    · rw [if_pos e]; simp [fAj,Co.new]
    · rw [if_neg e]; simp [fK1])
  have h5:=h4.ext (g:=fR1 n i x) (fun k _ => by
    unfold fR1
    by_cases e:k = i
    · rw [if_pos e,if_pos e]; rfl
    · rw [if_neg e,if_neg e])
  have e6:((List.range n).flatMap fun k => (if k = i then fAj n i x Dp.zero 0 else fK1 n i k x).out) = (othN n i).map (okPL i):=by
    rw [← flat_oth]
    refine congrArg (fun g => (List.range n).flatMap g) (funext fun k => ?_)
    by_cases e:k = i
    · rw [if_pos e,if_pos e]; rfl
    · rw [if_neg e,if_neg e]; rfl
  rw [e6] at h5
  exact h5
theorem round2 {W:Wd} (h:Shp W n (fR1 n i x) ((othN n i).map (okPL i))) (hi:i < n) (hn3:3 ≤ n) (hn7:n ≤ 7) (hx:x.right):Shp (W.rnd i) n (fR2 n i x) ((othN n i).map fun k => comL i k x):=by
  have e0:fR1 n i x i = fAj n i x Dp.zero 0:=if_pos rfl
  have hol:=oth_le n i
  have hln:=oth_len n i hi
  have h1:=(h.drain hi (room:=roomB) (by simp [roomB]; omega)).cleared
  have h2:=Shp.takes1 hi ((othN n i).map (okPL i)) h1 (fun y hy => by
    obtain ⟨k,_,rfl⟩:=List.mem_map.1 hy
    rfl)
  have h3:Shp ((W.drain i roomB).cleared.takes ((othN n i).map (okPL i) ++ (fR1 n i x i).out)) n (fun k => if k = i then fA2 n i x else (fK1 n i k x).drained) []:=by
    rw [e0]
    have ea:(othN n i).map (okPL i) ++ (fAj n i x Dp.zero 0).out = (othN n i).map (okPL i):=List.append_nil _
    rw [ea]
    refine h2.ext fun k hk => ?_
    by_cases e:k = i
    · subst e
      rw [if_pos rfl,if_pos rfl,if_pos rfl,e0]
      exact ans_all hi hn7 hx (othN n k) Dp.zero 0 (othN_nodup n k) (fun j hj => ⟨othN_mem.1 hj,z_g j⟩) (by omega) (by omega)
    · rw [if_neg e,if_neg e,if_neg e]
      exact if_neg e
  have h4:=h.rnd hi hn7 (by simp; omega) (by rw [e0]; simp [fAj,Co.new]) h3 (fun k => by
    by_cases e:k = i
    · rw [if_pos e]; simp [fA2]; omega
    · rw [if_neg e]; simp [Co.drained])
  have h5:=h4.ext (g:=fR2 n i x) (fun k _ => by
    unfold fR2
    by_cases e:k = i
    · rw [if_pos e,if_pos e]
    · rw [if_neg e,if_neg e]; rfl)
  have e6:((List.range n).flatMap fun k => (if k = i then fA2 n i x else (fK1 n i k x).drained).out) = (othN n i).map fun k => comL i k x:=by
    rw [← flat_one n i hi ((othN n i).map fun k => comL i k x)]
    refine congrArg (fun g => (List.range n).flatMap g) (funext fun k => ?_)
    by_cases e:k = i
    · rw [if_pos e,if_pos e]; rfl
    · rw [if_neg e,if_neg e]; rfl
  rw [e6] at h5
  exact h5
theorem round3 {W:Wd} (h:Shp W n (fR2 n i x) ((othN n i).map fun k => comL i k x)) (hi:i < n) (hn7:n ≤ 7) (hx:x.right):Shp (W.rnd i) n (fR3 n i x) []:=by
  have e0:fR2 n i x i = (fA2 n i x).drained:=if_pos rfl
  have hol:=oth_le n i
  have h1:=(h.drain hi (room:=roomB) (by simp [roomB]; omega)).cleared
  have h2:=Shp.takes (fun k => comL i k x) (fun k => rfl) (othN n i) h1 (othN_nodup n i) fun k hk => (othN_mem.1 hk).1
  have h3:Shp ((W.drain i roomB).cleared.takes (((othN n i).map fun k => comL i k x) ++ (fR2 n i x i).out)) n (fun k => if k = i then (fA2 n i x).drained else fK2 n i k x) []:=by
    rw [e0]
    have ea:((othN n i).map fun k => comL i k x) ++ (fA2 n i x).drained.out = (othN n i).map fun k => comL i k x:=List.append_nil _
    rw [ea]
    refine h2.ext fun k hk => ?_
    by_cases e:k = i
    · subst e
      rw [if_neg (fun h => (othN_mem.1 h).2 rfl),if_pos rfl,if_pos rfl,e0]; rfl
    · rw [if_pos (othN_mem.2 ⟨hk,e⟩),if_neg e,if_neg e]
      have:fR2 n i x k = (fK1 n i k x).drained:=if_neg e
      rw [this,com_fast hi hk e hn7 hx]
  have h4:=h.rnd hi hn7 (by simp; omega) (by rw [e0]; simp [Co.drained]) h3 (fun k => by
    by_cases e:k = i
    · rw [if_pos e]; simp [Co.drained]
    · rw [if_neg e]; simp [fK2,Co.new])
  have h5:=h4.ext (g:=fR3 n i x) (fun k _ => by
    unfold fR3
    by_cases e:k = i
    · rw [if_pos e,if_pos e]; rfl
    · rw [if_neg e,if_neg e])
  have e6:((List.range n).flatMap fun k => (if k = i then (fA2 n i x).drained else fK2 n i k x).out) = []:=by
    rw [List.flatMap_eq_nil_iff]
    intro k _
    by_cases e:k = i
    · rw [if_pos e]; rfl
    · rw [if_neg e]; rfl
  rw [e6] at h5
  exact h5
theorem fast_end (n i k:Nat) (x:Cmd):(fR3 n i x k).at (fId i) = fC3 x ∧ (lkC (fId i) (fR3 n i x k).lg).isSome = true ∧ (fR3 n i x k).leads = [] ∧ (fR3 n i x k).wishes = []:=by
  unfold fR3
  by_cases e:k = i
  · rw [if_pos e]
    have:lkC (fId i) (fA2 n i x).drained.lg = some (fC3 x):=by
      show lkC (fId i) [(fId i,fC3 x)] = some (fC3 x)
      simp [lkC]
    exact ⟨by unfold Co.at; rw [this]; rfl,by rw [this]; rfl,rfl,rfl⟩
  · rw [if_neg e]
    have:lkC (fId i) (fK2 n i k x).drained.lg = some (fC3 x):=by
      show lkC (fId i) [(fId i,fC3 x)] = some (fC3 x)
      simp [lkC]
    exact ⟨by unfold Co.at; rw [this]; rfl,by rw [this]; rfl,rfl,rfl⟩
theorem fresh_shp (n:Nat):Shp (Wd.fresh n) n (fun k => Co.new n k Dp.zero) []:=⟨rfl,rfl,by simp [Wd.fresh,Wd.freshN],rfl⟩
/-- three rounds -/
theorem fast_rounds (hi:i < n) (hn3:3 ≤ n) (hn7:n ≤ 7) (hx:x.right):Shp (((((Wd.fresh n).put i (fA1 n i x)).rnd i).rnd i).rnd i) n (fR3 n i x) [] :=
  round3 (round2 (round1 (((fresh_shp n).put i (fA1 n i x)).ext fun k _ => by
    unfold fR0
    rfl) hi hn7 hx) hi hn3 hn7 hx) hi hn7 hx
end Go.Fw
namespace Go.Fw
open Go.Proofs
/-! what holds of every world -/
structure CoB (C:Co) (n t:Nat):Prop where
  ok:C.Ok
  n:C.n = n
  recs:C.recs.length ≤ t
  out:C.out.length ≤ 7 * t
  leads:C.leads.length ≤ t
structure Wd.Good (W:Wd) (n t s o:Nat):Prop where
  num:W.n = n
  n3:n = 3 ∨ n = 5 ∨ n = 7
  cl:W.cores.length = n
  kl:W.kept.length = n
  co:∀ C ∈ W.cores,CoB C n t
  ke:∀ k ∈ W.kept,k.length ≤ s
  on:W.on.length ≤ o
theorem CoB.up {C:Co} {n t t':Nat} (h:CoB C n t) (ht:t ≤ t'):CoB C n t':=⟨h.ok,h.n,Nat.le_trans h.recs ht,by have:=h.out; omega,Nat.le_trans h.leads ht⟩
theorem CoB.step {C C':Co} {n t:Nat} (h:CoB C n t) (hn:n ≤ 7) (hs:Sts C C' 1 C.n 1):CoB C' n (t + 1):=by
  have h1:=h.recs
  have h2:=h.out
  have h3:=h.leads
  have h4:=h.n
  have s1:=hs.sz.recs
  have s2:=hs.sz.out
  have s3:=hs.sz.leads
  exact ⟨hs.ok h.ok,hs.sz.n.trans h.n,by omega,by omega,by omega⟩
theorem CoB.drained {C:Co} {n t:Nat} (h:CoB C n t):CoB C.drained n t:=⟨drained_ok h.ok,h.n,Nat.zero_le _,Nat.zero_le _,h.leads⟩
theorem CoB.fit {C:Co} {n t:Nat} (h:CoB C n t) (ht:t ≤ 100000):C.Fit:=h.ok.fit (Nat.le_trans h.recs ht) (by have:=h.out; omega) (Nat.le_trans h.leads ht)
variable {W:Wd} {n t s o:Nat}
theorem Wd.Good.up {t' s' o':Nat} (h:W.Good n t s o) (h1:t ≤ t') (h2:s ≤ s') (h3:o ≤ o'):W.Good n t' s' o':=⟨h.num,h.n3,h.cl,h.kl,fun C hC => (h.co C hC).up h1,fun k hk => Nat.le_trans (h.ke k hk) h2,Nat.le_trans h.on h3⟩
theorem mem_set_or {α:Type} {l:List α} {i:Nat} {x y:α} (h:y ∈ l.set i x):y = x ∨ y ∈ l:=by
  rcases List.mem_or_eq_of_mem_set h with h | h
  · exact .inr h
  · exact .inl h
theorem Wd.Good.put (h:W.Good n t s o) (j:Nat) {C:Co} (hC:CoB C n t):(W.put j C).Good n t s o :=
  ⟨h.num,h.n3,by simp [Wd.put,h.cl],h.kl,fun C' hC' => by
    rcases mem_set_or hC' with e | e
    · subst e; exact hC
    · exact h.co C' e,h.ke,h.on⟩
theorem Wd.Good.get (h:W.Good n t s o) {j:Nat} (hj:j < n):∃ C k,W.cores[j]? = some C ∧ W.kept[j]? = some k ∧ CoB C n t ∧ k.length ≤ s:=by
  have h1:=h.cl
  have h2:=h.kl
  refine ⟨W.cores[j],W.kept[j],List.getElem?_eq_getElem (by omega),List.getElem?_eq_getElem (by omega),h.co _ (List.getElem_mem _),h.ke _ (List.getElem_mem _)⟩
theorem Wd.Good.drain (h:W.Good n t s o) {j:Nat} (hj:j < n) (room:Int):(W.drain j room).Good n t (s + t) (o + 7 * t):=by
  obtain ⟨C,k,hC,hk,hb,hs⟩:=h.get hj
  unfold Wd.drain
  rw [hC,hk]
  have h0:=h.on
  have h1:=hb.out
  have h2:=hb.recs
  refine ⟨h.num,h.n3,by simp [h.cl],by simp [h.kl],fun C' hC' => ?_,fun k' hk' => ?_, ?_⟩
  · rcases mem_set_or hC' with e | e
    · subst e; exact hb.drained
    · exact h.co C' e
  · rcases mem_set_or hk' with e | e
    · subst e; rw [List.length_append]; omega
    · have:=h.ke k' e; omega
  · show (if _ then _ else _:List Lt).length ≤ _
    split
    · rw [List.length_append]; omega
    · omega
theorem Wd.Good.take1 (h:W.Good n t s o) (x:Lt):(W.take1 x).Good n (t + 1) s o:=by
  unfold Wd.take1
  have h3:=h.n3
  cases e:W.cores[x.dst.toNat]? with
  | none => exact h.up (by omega) (Nat.le_refl _) (Nat.le_refl _)
  | some C =>
    have hb:=h.co C (List.mem_of_getElem? e)
    exact (h.up (by omega) (Nat.le_refl _) (Nat.le_refl _)).put _ (hb.step (by omega) (take_st C 0 x (by have:=hb.n; omega)))
theorem Wd.Good.takes:∀ (l:List Lt) {W:Wd} {t:Nat},W.Good n t s o → (W.takes l).Good n (t + l.length) s o
  | [],W,t,h => h
  | x :: r,W,t,h => by
    have:=Wd.Good.takes r (h.take1 x)
    exact this.up (by simp; omega) (Nat.le_refl _) (Nat.le_refl _)
theorem Wd.Good.drains (h:W.Good n t s o) (room:Int):∀ j,j ≤ n → (W.drains room j).Good n t (s + j * t) (o + j * (7 * t))
  | 0,_ => h.up (Nat.le_refl _) (by omega) (by omega)
  | j + 1,hj => by
    have h1:=(Wd.Good.drains h room j (by omega)).drain (j:=j) (by omega) room
    exact h1.up (Nat.le_refl _) (by rw [Nat.add_mul]; omega) (by rw [Nat.add_mul]; omega)
theorem Wd.Good.cleared (h:W.Good n t s o):W.cleared.Good n t s 0:=⟨h.num,h.n3,h.cl,h.kl,h.co,h.ke,Nat.zero_le _⟩
theorem fresh_good (n:Nat) (hn:n = 3 ∨ n = 5 ∨ n = 7):(Wd.fresh n).Good n 0 0 0:=by
  refine ⟨rfl,hn,by simp [Wd.fresh,Wd.freshN],by simp [Wd.fresh,Wd.freshN],fun C hC => ?_,fun k hk => ?_,Nat.le_refl _⟩
  · obtain ⟨j,hj,rfl⟩:=List.mem_map.1 hC
    exact ⟨new_ok n j _ hn (List.mem_range.1 hj),rfl,Nat.zero_le _,Nat.zero_le _,Nat.zero_le _⟩
  · have:=List.eq_of_mem_replicate hk
    subst this; exact Nat.le_refl _
end Go.Fw
namespace Go.Fw
open Go.Proofs
variable {m m0 M:Mem} {S:List Nat} {L:List As}
theorem wd_slot {V:Wv} {W:Wd} (ho:V.ok W) {j:Nat} {C:Co} (hC:W.cores[j]? = some C):∃ v,V.cs[j]? = some v ∧ v.2.ok C:=by
  have h:=(List.getElem?_eq_some_iff.1 hC).1
  have h1:=ho.cs
  exact ⟨V.cs[j]'(by omega),List.getElem?_eq_getElem (by omega),ho.cores j _ C (List.getElem?_eq_getElem (by omega)) hC⟩
theorem take1_eq {W:Wd} {x:Lt} {k:Nat} {C:Co} (hx:x.dst = (k:Nat)) (hC:W.cores[k]? = some C):W.take1 x = W.put k (C.take 0 x).1:=by
  unfold Wd.take1
  rw [hx,Int.toNat_natCast,hC]
theorem takes_snoc {W:Wd} {l:List Lt} {j:Nat} {x:Lt} (h:l[j]? = some x):W.takes (l.take (j + 1)) = (W.takes (l.take j)).take1 x:=by
  unfold Wd.takes
  rw [List.take_add_one,h,List.foldl_append]; rfl
/-- the letters are taken out of the world -/
theorem wd_on {wb:Nat} {V:Wv} {W:Wd} (H:Hq m0 m S (cellA wb (.cells [.int .i64 (W.n:Nat),V.cv,V.kv,.slice none 0 0].toArray T_law18_world (0,0)) :: ownA T_P_core_Core 1 V.cv V.cs.length (V.cs.flatMap cpL) :: zipA cvA V.cs W.cores :: ownA T_S_S_uint8 1 V.kv V.ks.length (V.ks.flatMap kpL) :: zipA kvA V.ks W.kept :: ownA T_api_Letter 51 V.ov W.on.length (W.on.flatMap Lt.cs) :: L)) :
    Hq m0 m S (wdA wb { V with ov:=.slice none 0 0 } W.cleared :: ownA T_api_Letter 51 V.ov W.on.length (W.on.flatMap Lt.cs) :: L):=by
  have H:=H.nilRow T_api_Letter 51
  have H:Hq m0 m S (wdL wb { V with ov:=.slice none 0 0 } W.cleared ++ (ownA T_api_Letter 51 V.ov W.on.length (W.on.flatMap Lt.cs) :: L)) :=
    H.perm (List.perm_middle (l₁:=[cellA wb (.cells [.int .i64 (W.n:Nat),V.cv,V.kv,.slice none 0 0].toArray T_law18_world (0,0)),ownA T_P_core_Core 1 V.cv V.cs.length (V.cs.flatMap cpL),zipA cvA V.cs W.cores,ownA T_S_S_uint8 1 V.kv V.ks.length (V.ks.flatMap kpL),zipA kvA V.ks W.kept]))
  exact H.wdJ
abbrev frB:NC:=.seq Q4r17 (.block 4 (.loop [5,7,8,9,11,14] Q4l1))
abbrev frE (b5 wb i b9:Nat) (j:Int):Env:=[(5,lp b5),(7,lp wb),(8,.int .i64 (i:Nat)),(9,lp b9),(11,.int .i64 j)]
set_option maxHeartbeats 16000000 in
theorem fast_drains {Q:Exit → Env → Mem → Prop} {b5 wb i b9 n t s o:Nat} {jj:Int} {V:Wv} {W:Wd} (hg:W.Good n t s o) (ht:t ≤ 1000) (hs:s ≤ 100000) (ho:o ≤ 100000) (hV:V.ok W)
    (H:Hq m M S (wdA wb V W :: L))
    (K:∀ V M,V.ok (W.drains roomB n) → Hq m M S (wdA wb V (W.drains roomB n) :: L) → Q .normal [(5,lp b5),(7,lp wb),(8,.int .i64 (i:Nat)),(9,lp b9),(11,.int .i64 jj),(14,.int .i64 (n:Nat)),(101,.bool false)] M) :
    wpN Tryz.prog frB Q (frE b5 wb i b9 jj) M:=by
  simp (disch:=omega) only [go_sem,undef]
  refine loopQ_intro (fun k E m' => ∃ (j:Nat) (V:Wv),j ≤ n ∧ k = n - j ∧ E = [(5,lp b5),(7,lp wb),(8,.int .i64 (i:Nat)),(9,lp b9),(11,.int .i64 jj),(14,.int .i64 (j:Nat))] ∧ V.ok (W.drains roomB j) ∧ Hq m m' S (wdA wb V (W.drains roomB j) :: L)) n rfl ⟨0,V,by omega,rfl,rfl,hV,H⟩ ?_
  clear H hV
  rintro k E M1 ⟨j,V,hj,rfl,rfl,hV,H⟩
  have hgj:=hg.drains roomB j hj
  have hn3:=hg.n3
  have hc:=wd_cell (H.at 0 rfl)
  have hnn:=hgj.num
  have hjs:j * t ≤ 7 * 1000:=Nat.mul_le_mul (by omega) ht
  have hjo:j * (7 * t) ≤ 7 * 7000:=Nat.mul_le_mul (by omega) (by omega)
  by_cases hlt:j < n
  · obtain ⟨C,k,hC,hk,hb,hsk⟩:=hgj.get hlt
    have hr1:=hb.recs
    have hr2:=hb.out
    have hr3:=hgj.on
    simp (disch:=omega) only [go_sem,undef,hc,wdC,hnn,dec_t (show ((j:Nat):Int) < (n:Nat) by omega)]
    refine callA0 H (drain_s (H.at 0 rfl) hV j roomB hC hk (by omega) (by omega) (by omega) (by omega)) fun u M A' hR f H => ?_
    refine hR.E fun V2 eu hV2 eA => ?_
    subst eu eA
    simp (disch:=omega) only [go_sem,undef]
    exact handN_intro (n - (j + 1)) (by omega) ⟨j + 1,V2,by omega,rfl,rfl,hV2,H⟩
  · have e:j = n:=by omega
    subst e
    simp (disch:=omega) only [go_sem,undef,hc,wdC,hnn,dec_f (show ¬ ((j:Nat):Int) < (j:Nat) by omega)]
    exact K V M1 hV H
abbrev frA:NC:=.seq Q4r10 (.seq Q4r11 (.seq Q4r12 (.seq (.seq Q4r13 (.block 2 (.loop [5,7,8,9,11,12,13] Q4l0))) frB)))
set_option maxHeartbeats 16000000 in
theorem fast_round {Q:Exit → Env → Mem → Prop} {b5 wb i b9 n t s o:Nat} {jj:Int} {V:Wv} {W:Wd} (hi:i < n) (hg:W.Good n t s o) (ht:t ≤ 900) (hs:s ≤ 80000) (ho:o ≤ 80000) (hV:V.ok W)
    (hon:(W.drain i roomB).on.length ≤ 100) (hL:∀ y ∈ (W.drain i roomB).on,(∃ k,k < n ∧ y.dst = (k:Nat)) ∧ y.kind ≠ 8)
    (H:Hq m M S (wdA wb V W :: L))
    (K:∀ V M,V.ok (W.rnd i) → Hq m M S (wdA wb V (W.rnd i) :: L) → Q .normal [(5,lp b5),(7,lp wb),(8,.int .i64 (i:Nat)),(9,lp b9),(11,.int .i64 jj),(14,.int .i64 (n:Nat)),(101,.bool false)] M) :
    wpN Tryz.prog frA Q (frE b5 wb i b9 jj) M:=by
  have hnum:=hg.num
  have hrn:W.rnd i = ((W.drain i roomB).cleared.takes (W.drain i roomB).on).drains roomB n:=by unfold Wd.rnd; rw [hnum]
  rw [hrn] at K
  clear hrn
  obtain ⟨C,k,hC,hk,hb,hsk⟩:=hg.get hi
  have hr1:=hb.recs
  have hr2:=hb.out
  have hr3:=hg.on
  show wpN Tryz.prog (.seq Q4r10 (.seq Q4r11 (.seq Q4r12 (.seq (.seq Q4r13 (.block 2 (.loop [5,7,8,9,11,12,13] Q4l0))) frB)))) Q (frE b5 wb i b9 jj) M
  generalize hT:frB = T
  simp (disch:=omega) only [go_sem,undef]
  refine callA0 H (drain_s (H.at 0 rfl) hV i roomB hC hk (by omega) (by omega) (by omega) (by omega)) fun u M A' hR f H => ?_
  refine hR.E fun V1 eu hV1 eA => ?_
  subst eu eA
  clear hR
  have hg1:=hg.drain hi roomB
  generalize W.drain i roomB = W1 at *
  have H:=Hq.wdS H
  refine Own.formK (H.at 5 rfl) fun la lc elv => ?_
  have H:Hq m M S (cellA wb (.cells (wdC V1 W1).toArray T_law18_world (0,0)) :: ownA T_P_core_Core 1 V1.cv V1.cs.length (V1.cs.flatMap cpL) :: zipA cvA V1.cs W1.cores :: ownA T_S_S_uint8 1 V1.kv V1.ks.length (V1.ks.flatMap kpL) :: zipA kvA V1.ks W1.kept :: ownA T_api_Letter 51 V1.ov W1.on.length (W1.on.flatMap Lt.cs) :: L):=H
  have hc:=cell_of (H.at 0 rfl)
  simp (disch:=omega) only [go_sem,undef,hc,wdC,elv]
  refine wrQ0 H fun M f H => ?_
  have H:Hq m M S (cellA wb (.cells [.int .i64 (W1.n:Nat),V1.cv,V1.kv,.slice none 0 0].toArray T_law18_world (0,0)) :: ownA T_P_core_Core 1 V1.cv V1.cs.length (V1.cs.flatMap cpL) :: zipA cvA V1.cs W1.cores :: ownA T_S_S_uint8 1 V1.kv V1.ks.length (V1.ks.flatMap kpL) :: zipA kvA V1.ks W1.kept :: ownA T_api_Letter 51 V1.ov W1.on.length (W1.on.flatMap Lt.cs) :: L):=H
  have H:=wd_on H
  rw [elv] at H
  have hV2:({ V1 with ov:=.slice none 0 0 }:Wv).ok W1.cleared:=⟨hV1.cs,hV1.ks,hV1.cores⟩
  have hg2:=hg1.cleared
  simp (disch:=omega) only [go_sem,undef]
  refine loopQ_intro (fun k E m' => ∃ (j:Nat) (V:Wv),j ≤ W1.on.length ∧ k = W1.on.length - j ∧ E = [(5,lp b5),(7,lp wb),(8,.int .i64 (i:Nat)),(9,lp b9),(11,.int .i64 jj),(12,.slice la W1.on.length lc),(13,.int .i64 (j:Nat))] ∧ V.ok (W1.cleared.takes (W1.on.take j)) ∧
    Hq m m' S (wdA wb V (W1.cleared.takes (W1.on.take j)) :: ownA T_api_Letter 51 (.slice la W1.on.length lc) W1.on.length (W1.on.flatMap Lt.cs) :: L)) W1.on.length rfl ⟨0,_,by omega,rfl,rfl,hV2,H⟩ ?_
  clear H hV2 hV1 hV hc f elv
  rintro k E M1 ⟨j,V,hj,rfl,rfl,hV,H⟩
  have hgj:=hg2.takes (W1.on.take j)
  have hlj:(W1.on.take j).length ≤ 100:=by rw [List.length_take]; omega
  have hrd:RdS 51 Lt.cs M1 (.slice la W1.on.length lc) W1.on:=Own.rds (by decide) Lt.len (H.at 1 rfl)
  by_cases hlt:j < W1.on.length
  · refine RdS.elK hrd hlt (by decide) fun bx o x hx hix hE => ?_
    have hxs:=hL x (List.mem_of_getElem? hx)
    refine Exists.elim hxs.1 fun k hk2 => ?_
    have hdst:=hk2.2
    have hkn:=hk2.1
    have hstep:=takes_snoc (W:=W1.cleared) hx
    have hg2':=hE.cell 2 _ (show x.cs[2]? = some (.int .i64 x.dst) from rfl)
    rw [hdst] at hg2'
    have hlda0:=hE.lda0 51 (by decide) (by decide)
    generalize W1.cleared.takes (W1.on.take j) = W2 at *
    obtain ⟨C2,k2,hC2,hk3,hb2,hsk2⟩:=hgj.get hkn
    refine Exists.elim (wd_slot hV hC2) fun v hv => ?_
    have ht1:=take1_eq (x:=x) hdst hC2
    have hcr:=wd_crow (H.at 0 rfl)
    refine Exists.elim hcr.form fun ca hcv => Exists.elim hcv fun cc hcv => ?_
    rw [hcv] at hcr
    have hvl:=(List.getElem?_eq_some_iff.1 hv.1).1
    refine RdS.elK hcr hvl (by decide) fun bx3 o3 v' hv' hix3 hE3 => ?_
    have ev:v' = v:=Option.some.inj (hv'.symm.trans hv.1)
    subst ev
    have hp0:(cpL v')[0]? = some (lp v'.1):=rfl
    have hc:=wd_cell (H.at 0 rfl)
    simp (disch:=omega) only [go_sem,undef,dec_t (show ((j:Nat):Int) < (W1.on.length:Nat) by omega),hc,wdC,hcv,hix,hg2',hix3,hE3.ld0,hp0,hlda0]
    have H:=wd_open hv.1 hC2 H
    refine callA0 H (core_Take_s (H.at 0 rfl) hv.2 (hb2.fit (by omega)) x) fun u M A' hR f H => ?_
    refine Exists.elim hR fun bw hR => ?_
    rw [refused_b0 _ bw x hxs.2] at hR
    refine hR.E fun Y2 eu hoY eA => ?_
    subst eu eA
    have H:=wd_back hv.1 hC2 H
    have hV3:(V.put k (v'.1,Y2)).ok (W2.put k (C2.take 0 x).1):=put_ok hV hoY
    simp (disch:=omega) only [go_sem,undef]
    exact handN_intro (W1.on.length - (j + 1)) (by omega) ⟨j + 1,_,by omega,rfl,rfl,by rw [hstep,ht1]; exact hV3,by rw [hstep,ht1]; exact H⟩
  · have e:j = W1.on.length:=by omega
    subst e
    rw [List.take_length] at *
    simp (disch:=omega) only [go_sem,undef,dec_f (show ¬ ((W1.on.length:Nat):Int) < (W1.on.length:Nat) by omega)]
    subst hT
    exact fast_drains hgj (by omega) (by omega) (by omega) hV (H.perm (List.Perm.refl _)) fun V M hVV H => K V M hVV (H.drop 1)
end Go.Fw
namespace Go.Fw
open Go.Proofs
variable {m m0 M:Mem} {S:List Nat} {L:List As}
abbrev ffQ (m:Mem):Exit → Env → Mem → Prop:=retP [.slot 6] fun u M => u = .bool true ∧ Fr m M []
abbrev feA:NC:=.seq (.seq Q4r22 (.block 6 (.loop [5,7,8,9,15] Q4l3))) (.seq Q4r31 .ret)
set_option maxHeartbeats 16000000 in
theorem fast_fin {E:Env} {b5 wb i b9 n:Nat} {x:Cmd} {V:Wv} {W:Wd} (hn7:n ≤ 7) (hSh:Shp W n (fR3 n i x) []) (hV:V.ok W)
    (H:Hq m M [] [wdA wb V W,cellA b9 (.cells (pc (fId i)).toArray T_api_Inst (0,0)),cellA b5 (.cells x.cs.toArray T_api_Command (0,0))])
    (e5:E.get 5 = lp b5) (e7:E.get 7 = lp wb) (e8:E.get 8 = .int .i64 (i:Nat)) (e9:E.get 9 = lp b9) (h5:E.has 5 = true) (h7:E.has 7 = true) (h8:E.has 8 = true) (h9:E.has 9 = true) :
    wpN Tryz.prog feA (ffQ m) E M:=by
  simp (disch:=omega) only [go_sem,undef,e5,e7,e8,e9,h5,h7,h8,h9]
  refine loopQ_intro (fun k E m' => ∃ (j:Nat),j ≤ n ∧ k = n - j ∧ E = [(5,lp b5),(7,lp wb),(8,.int .i64 (i:Nat)),(9,lp b9),(15,.int .i64 (j:Nat))] ∧ Hq m m' [] [wdA wb V W,cellA b9 (.cells (pc (fId i)).toArray T_api_Inst (0,0)),cellA b5 (.cells x.cs.toArray T_api_Command (0,0))]) n rfl ⟨0,by omega,rfl,rfl,H⟩ ?_
  clear H
  rintro k E M1 ⟨j,hj,rfl,rfl,H⟩
  have hc:=wd_cell (H.at 0 rfl)
  have hnn:=hSh.num
  by_cases hlt:j < n
  · have hC:=hSh.get hlt
    have hend:=fast_end n i j x
    generalize fR3 n i x j = C at *
    refine Exists.elim (wd_slot hV hC) fun v hv => ?_
    have hcr:=wd_crow (H.at 0 rfl)
    refine Exists.elim hcr.form fun ca hcv => Exists.elim hcv fun cc hcv => ?_
    rw [hcv] at hcr
    have hvl:=(List.getElem?_eq_some_iff.1 hv.1).1
    refine RdS.elK hcr hvl (by decide) fun bx3 o3 v' hv' hix3 hE3 => ?_
    have ev:v' = v:=Option.some.inj (hv'.symm.trans hv.1)
    subst ev
    have hp0:(cpL v')[0]? = some (lp v'.1):=rfl
    have hco:=fun M (hA:(wdA wb V W).p M) => wd_co hA hv.1 hC
    have hcell:=fun M (hA:(wdA wb V W).p M) => core_Cell_s (hco M hA) (fId i)
    rw [at_lk,hend.1,hend.2.1] at hcell
    have hbusy:=fun M (hA:(wdA wb V W).p M) => core_Busy_s (hco M hA) hv.2
    rw [hend.2.2.1,hend.2.2.2] at hbusy
    have hl0:(([]:List Ld).length:Int) = 0:=rfl
    have hl1:(([]:List Wsh).length:Int) = 0:=rfl
    have hlen0:(([]:List Ld).length) = 0:=rfl
    have hlen1:(([]:List Wsh).length) = 0:=rfl
    have hst:(fC3 x).st = 3:=rfl
    have hcm:(fC3 x).cmd = x:=rfl
    have hat:(fC3 x).att = Att.zero:=rfl
    have hfe:fId i = (((i:Nat):Int),(1:Int)):=rfl
    generalize hC3:fC3 x = c at *
    have hz:((0:Nat):Int) = 0:=rfl
    rw [hlen0,hlen1,hz] at hbusy
    clear hend hl0 hl1 hlen0 hlen1
    simp (disch:=omega) only [go_sem,undef,hc,wdC,hnn,dec_t (show ((j:Nat):Int) < (n:Nat) by omega),hcv,hix3,hE3.ld0,hp0,H.cs]
    refine both_intro ?_ ?_
    · simp (disch:=omega) only [go_sem,undef,H.cs,hc,wdC,hcv,hix3,hE3.ld0,hp0]
      refine callQ H (hcell _ (H.at 0 rfl)) fun M f H => ?_
      have hE3:=hE3.frame f
      have hc:=wd_cell (H.at 0 rfl)
      simp (disch:=omega) only [go_sem,undef,H.cs,hc,wdC,hcv,hix3,hE3.ld0,hp0]
      refine newQ H fun b16 M f H => ?_
      have hE3:=hE3.frame f
      have hc:=wd_cell (H.at 1 rfl)
      simp (disch:=omega) only [go_sem,undef,H.cs,hc,wdC,hcv,hix3,hE3.ld0,hp0]
      refine stwQ0 H rfl rfl fun M f H => ?_
      have hcr:=wd_crow (H.at 1 rfl)
      rw [hcv] at hcr
      refine RdS.elK hcr hvl (by decide) fun bx5 o5 v5 hv5 hix5 hE5 => ?_
      have ev5:v5 = v':=Option.some.inj (hv5.symm.trans hv.1)
      subst ev5
      have hp5:(cpL v5)[0]? = some (lp v5.1):=rfl
      have hc:=wd_cell (H.at 1 rfl)
      simp (disch:=omega) only [go_sem,undef,H.cs,hc,wdC,hcv,hix5,hE5.ld0,hp5,Bool.not_true,dec_f (show ¬ c.st ≠ 3 from fun h => h hst),dec_t hcm,dec_t hat,hfe,Bool.not_false]
      refine callQ H (hbusy _ (H.at 1 rfl)) fun M f H => ?_
      simp (disch:=omega) only [go_sem,undef]
      exact handN_intro (n - (j + 1)) (by omega) ⟨j + 1,by omega,rfl,rfl,H.tail⟩
    · simp (disch:=omega) only [go_sem,undef,H.cs,hc,wdC,hcv,hix3,hE3.ld0,hp0]
      refine newQ H fun b16 M f H => ?_
      have hE3:=hE3.frame f
      have hc:=wd_cell (H.at 1 rfl)
      simp (disch:=omega) only [go_sem,undef,H.cs,hc,wdC,hcv,hix3,hE3.ld0,hp0]
      refine callQ H (hcell _ (H.at 1 rfl)) fun M f H => ?_
      simp (disch:=omega) only [go_sem,undef,H.cs,hc,wdC,hcv,hix3,hp0]
      refine stwQ0 H rfl rfl fun M f H => ?_
      have hcr:=wd_crow (H.at 1 rfl)
      rw [hcv] at hcr
      refine RdS.elK hcr hvl (by decide) fun bx5 o5 v5 hv5 hix5 hE5 => ?_
      have ev5:v5 = v':=Option.some.inj (hv5.symm.trans hv.1)
      subst ev5
      have hp5:(cpL v5)[0]? = some (lp v5.1):=rfl
      have hc:=wd_cell (H.at 1 rfl)
      simp (disch:=omega) only [go_sem,undef,H.cs,hc,wdC,hcv,hix5,hE5.ld0,hp5,Bool.not_true,dec_f (show ¬ c.st ≠ 3 from fun h => h hst),dec_t hcm,dec_t hat,hfe,Bool.not_false]
      refine callQ H (hbusy _ (H.at 1 rfl)) fun M f H => ?_
      simp (disch:=omega) only [go_sem,undef]
      exact handN_intro (n - (j + 1)) (by omega) ⟨j + 1,by omega,rfl,rfl,H.tail⟩
  · have e:j = n:=by omega
    subst e
    simp (disch:=omega) only [go_sem,undef,hc,wdC,hnn,dec_f (show ¬ ((j:Nat):Int) < (j:Nat) by omega)]
    refine callQ H (coreRuns_s _) fun M f H => ?_
    simp (disch:=omega) only [go_sem,undef]
    exact ⟨rfl,H.fr⟩
end Go.Fw
namespace Go.Fw
open Go.Proofs
variable {n i:Nat} {x:Cmd}
theorem Wd.Good.rnd {W:Wd} {t s o:Nat} (h:W.Good n t s o) (hi:i < n) (hm:(W.drain i roomB).on.length ≤ 100):(W.rnd i).Good n (t + 100) (s + t + 7 * (t + 100)) (7 * (7 * (t + 100))):=by
  have h3:=h.n3
  have h1:=h.drain hi roomB
  have h2:=(Wd.Good.takes (W.drain i roomB).on h1.cleared).up (t':=t + 100) (by omega) (Nat.le_refl _) (Nat.le_refl _)
  have h4:=h2.drains roomB n (Nat.le_refl _)
  unfold Wd.rnd
  rw [h.num]
  have a1:n * (t + 100) ≤ 7 * (t + 100):=Nat.mul_le_mul_right _ (by omega)
  have a2:n * (7 * (t + 100)) ≤ 7 * (7 * (t + 100)):=Nat.mul_le_mul_right _ (by omega)
  exact h4.up (Nat.le_refl _) (by omega) (by omega)
def Wd.rndN (W:Wd) (i:Nat):Nat → Wd
  | 0 => W
  | j + 1 => (W.rndN i j).rnd i
def fW1 (n i:Nat) (x:Cmd):Wd:=(Wd.fresh n).put i (fA1 n i x)
theorem fW1_good (hn:n = 3 ∨ n = 5 ∨ n = 7) (hi:i < n) (hx:x.right) (hk:x.kind ≠ 0):(fW1 n i x).Good n 1 0 0:=by
  have h0:CoB (Co.new n i Dp.zero) n 0:=⟨new_ok n i _ hn hi,rfl,Nat.zero_le _,Nat.zero_le _,Nat.zero_le _⟩
  have h1:=h0.step (by omega) (propose_st (Co.new n i Dp.zero) x)
  rw [prop_fast hi (by omega) hx hk] at h1
  exact ((fresh_good n hn).up (Nat.zero_le _) (Nat.le_refl _) (Nat.le_refl _)).put i h1
def lgo (n i:Nat) (y:Lt):Prop:=(∃ k,k < n ∧ y.dst = (k:Nat)) ∧ y.kind ≠ 8
theorem lgo_map {f:Nat → Lt} (hf:∀ k,k < n → lgo n i (f k)):∀ y ∈ (othN n i).map f,lgo n i y:=fun y hy => by
  obtain ⟨k,hk,rfl⟩:=List.mem_map.1 hy
  exact hf k (othN_mem.1 hk).1
theorem fast_facts (hn:n = 3 ∨ n = 5 ∨ n = 7) (hi:i < n) (hx:x.right) (hk:x.kind ≠ 0) (j:Nat) (hj:j < 3) :
    ∃ t s o,((fW1 n i x).rndN i j).Good n t s o ∧ t ≤ 900 ∧ s ≤ 80000 ∧ o ≤ 80000 ∧ (((fW1 n i x).rndN i j).drain i roomB).on.length ≤ 100 ∧ ∀ y ∈ (((fW1 n i x).rndN i j).drain i roomB).on,lgo n i y:=by
  have hn7:n ≤ 7:=by omega
  have hn3:3 ≤ n:=by omega
  have hol:=oth_le n i
  have s0:Shp (fW1 n i x) n (fR0 n i x) []:=((fresh_shp n).put i (fA1 n i x)).ext fun k _ => by unfold fR0; rfl
  have s1:=round1 s0 hi hn7 hx
  have s2:=round2 s1 hi hn3 hn7 hx
  have d0:=s0.drain hi (room:=roomB) (by decide)
  have d1:=s1.drain hi (room:=roomB) (by simp [roomB]; omega)
  have d2:=s2.drain hi (room:=roomB) (by simp [roomB]; omega)
  have e0:(fR0 n i x i).out = (othN n i).map fun k => preL i k x:=by rw [show fR0 n i x i = fA1 n i x from if_pos rfl]; rfl
  have e1:(fR1 n i x i).out = []:=by rw [show fR1 n i x i = fAj n i x Dp.zero 0 from if_pos rfl]; rfl
  have e2:(fR2 n i x i).out = []:=by rw [show fR2 n i x i = (fA2 n i x).drained from if_pos rfl]; rfl
  have o0:=d0.on
  have o1:=d1.on
  have o2:=d2.on
  rw [e0,List.nil_append] at o0
  rw [e1,List.append_nil] at o1
  rw [e2,List.append_nil] at o2
  have l0:((fW1 n i x).drain i roomB).on.length ≤ 100:=by rw [o0,List.length_map]; omega
  have l1:(((fW1 n i x).rnd i).drain i roomB).on.length ≤ 100:=by rw [o1,List.length_map]; omega
  have l2:((((fW1 n i x).rnd i).rnd i).drain i roomB).on.length ≤ 100:=by rw [o2,List.length_map]; omega
  have g0:=fW1_good hn hi hx hk
  have g1:=g0.rnd hi l0
  have g2:=g1.rnd hi l1
  match j,hj with
  | 0,_ => exact ⟨_,_,_,g0,by omega,by omega,by omega,l0,by
      show ∀ y ∈ ((fW1 n i x).drain i roomB).on,lgo n i y
      rw [o0]; exact lgo_map fun k hk => ⟨⟨k,hk,rfl⟩,show (1:Int) ≠ 8 by decide⟩⟩
  | 1,_ => exact ⟨_,_,_,g1,by omega,by omega,by omega,l1,by
      show ∀ y ∈ (((fW1 n i x).rnd i).drain i roomB).on,lgo n i y
      rw [o1]; exact lgo_map fun k hk => ⟨⟨i,hi,rfl⟩,show (2:Int) ≠ 8 by decide⟩⟩
  | 2,_ => exact ⟨_,_,_,g2,by omega,by omega,by omega,l2,by
      show ∀ y ∈ ((((fW1 n i x).rnd i).rnd i).drain i roomB).on,lgo n i y
      rw [o2]; exact lgo_map fun k hk => ⟨⟨k,hk,rfl⟩,show (5:Int) ≠ 8 by decide⟩⟩
end Go.Fw
namespace Go.Fw
open Go.Proofs
variable {m m0 M:Mem} {S:List Nat} {L:List As}
abbrev fmA:NC:=.seq (.seq Q4r8 (.block 0 (.loop [5,7,8,9,11] Q4l2))) feA
set_option maxHeartbeats 16000000 in
theorem fast_main {E:Env} {b5 wb i b9 n:Nat} {x:Cmd} {V:Wv} (hn:n = 3 ∨ n = 5 ∨ n = 7) (hi:i < n) (hx:x.right) (hk:x.kind ≠ 0) (hV:V.ok (fW1 n i x))
    (H:Hq m M [] [wdA wb V (fW1 n i x),cellA b9 (.cells (pc (fId i)).toArray T_api_Inst (0,0)),cellA b5 (.cells x.cs.toArray T_api_Command (0,0))])
    (e5:E.get 5 = lp b5) (e7:E.get 7 = lp wb) (e8:E.get 8 = .int .i64 (i:Nat)) (e9:E.get 9 = lp b9) (h5:E.has 5 = true) (h7:E.has 7 = true) (h8:E.has 8 = true) (h9:E.has 9 = true) :
    wpN Tryz.prog fmA (ffQ m) E M:=by
  have hSh:=fast_rounds (x:=x) hi (by omega) (by omega) hx
  have hfx:=fast_facts hn hi hx hk
  have hn7:n ≤ 7:=by omega
  have he3:(fW1 n i x).rndN i 3 = (((((Wd.fresh n).put i (fA1 n i x)).rnd i).rnd i).rnd i):=rfl
  rw [← he3] at hSh
  have hst:∀ j,(fW1 n i x).rndN i (j + 1) = ((fW1 n i x).rndN i j).rnd i:=fun j => rfl
  have h0:(fW1 n i x).rndN i 0 = fW1 n i x:=rfl
  rw [← h0] at H hV
  generalize hG:(fW1 n i x).rndN i = G at *
  clear he3 h0 hG
  show wpN Tryz.prog (.seq (.seq Q4r8 (.block 0 (.loop [5,7,8,9,11] Q4l2))) feA) _ E M
  generalize hT:feA = T
  have hl2:Q4l2 = .seq (.seq Q4r9 (.cond (.slot 61) .skip (.exit 0))) (.seq (.block 1 frA) Q4r21):=rfl
  rw [hl2]
  generalize hT2:frA = T2
  simp (disch:=omega) only [go_sem,undef,e5,e7,e8,e9,h5,h7,h8,h9]
  refine loopQ_intro (fun k E m' => ∃ (j:Nat) (V:Wv),j ≤ 3 ∧ k = 3 - j ∧ E = [(5,lp b5),(7,lp wb),(8,.int .i64 (i:Nat)),(9,lp b9),(11,.int .i64 (j:Nat))] ∧ V.ok (G j) ∧ Hq m m' [] [wdA wb V (G j),cellA b9 (.cells (pc (fId i)).toArray T_api_Inst (0,0)),cellA b5 (.cells x.cs.toArray T_api_Command (0,0))]) 3 rfl ⟨0,V,by omega,rfl,rfl,hV,H⟩ ?_
  clear H hV
  rintro k E M1 ⟨j,V,hj,rfl,rfl,hV,H⟩
  by_cases hlt:j < 3
  · obtain ⟨t,s,o,hg,ht,hs,ho,hon,hL⟩:=hfx j hlt
    have hsj:=hst j
    simp (disch:=omega) only [go_sem,undef,dec_t (show ((j:Nat):Int) < 3 by omega)]
    subst hT2
    refine fast_round hi hg ht hs ho hV hon hL H fun V M hV H => ?_
    rw [← hsj] at hV H
    simp (disch:=omega) only [go_sem,undef]
    exact handN_intro (3 - (j + 1)) (by omega) ⟨j + 1,V,by omega,rfl,rfl,hV,H⟩
  · have e:j = 3:=by omega
    subst e
    simp (disch:=omega) only [go_sem,undef]
    subst hT
    exact fast_fin hn7 hSh hV H rfl rfl rfl rfl rfl rfl rfl rfl
end Go.Fw
namespace Go.Fw
open Go.Proofs
variable {m m0 M:Mem} {S:List Nat} {L:List As}
abbrev R6 (n:Int):Prop:=-9223372036854775808 ≤ n ∧ n ≤ 9223372036854775807
theorem within_s (n lo hi:Int) (h:lo ≤ hi) (hn:R6 n) (h1:-1000000000000 ≤ lo) (h2:hi ≤ 1000000000000):MC Tryz.prog n_book_Within [.int .i64 n,.int .i64 lo,.int .i64 hi] m fun v M => (∃ r,v = .int .i64 r ∧ lo ≤ r ∧ r ≤ hi) ∧ Fr m M []:=by
  refine Q17go (by simp [Tryz.f33]) ?_
  have hd:0 < hi - lo + 1:=by omega
  have e1:=Int.tmod_lt_of_pos n hd
  have e2:-(hi - lo + 1) < n.tmod (hi - lo + 1):=by
    have:=Int.lt_tmod_of_pos n hd
    omega
  have H:=Hq.refl m []
  simp (disch:=omega) only [go_sem,undef,rd_rem]
  generalize n.tmod (hi - lo + 1) = q at *
  refine condB_dec (fun h3 => ?_) (fun h3 => ?_)
  · simp (disch:=omega) only [go_sem,undef]
    exact ⟨⟨_,rfl,by omega,by omega⟩,H.fr⟩
  · simp (disch:=omega) only [go_sem,undef]
    exact ⟨⟨_,rfl,by omega,by omega⟩,H.fr⟩
abbrev fs6:NC:=.seq (.seq Q4r6 (.cond (.slot 48) (.seq Q4r7 .ret) .skip)) fmA
set_option maxHeartbeats 16000000 in
theorem fast_6 {E:Env} {b5 wb i b9 n:Nat} {x:Cmd} {V:Wv} {W:Wd} {p:Int × Int} {ok:Bool} (hn:n = 3 ∨ n = 5 ∨ n = 7) (hi:i < n) (hV:V.ok W)
    (h1:ok = true → (p = fId i ∧ W = fW1 n i x) ∧ x.right ∧ x.kind ≠ 0) (h2:ok = false → ¬ (x.right ∧ x.kind ≠ 0))
    (H:Hq m M [] [cellA b9 (.cells (pc p).toArray T_api_Inst (0,0)),wdA wb V W,cellA b5 (.cells x.cs.toArray T_api_Command (0,0))])
    (e5:E.get 5 = lp b5) (e7:E.get 7 = lp wb) (e8:E.get 8 = .int .i64 (i:Nat)) (e9:E.get 9 = lp b9) (e10:E.get 10 = .bool ok) (h5:E.has 5 = true) (h7:E.has 7 = true) (h8:E.has 8 = true) (h9:E.has 9 = true) (h10:E.has 10 = true) :
    wpN Tryz.prog fs6 (ffQ m) E M:=by
  show wpN Tryz.prog (.seq (.seq Q4r6 (.cond (.slot 48) (.seq Q4r7 .ret) .skip)) fmA) _ E M
  generalize hT:fmA = T
  cases ok with
  | true =>
    have h1:=h1 rfl
    have h1a:=h1.1.1
    have h1b:=h1.1.2
    subst h1a h1b
    simp (disch:=omega) only [go_sem,undef,e5,e7,e8,e9,e10,h5,h7,h8,h9,h10,Bool.not_true]
    subst hT
    exact fast_main hn hi h1.2.1 h1.2.2 hV (H.perm (List.Perm.swap ..)) rfl rfl rfl rfl rfl rfl rfl rfl
  | false =>
    have h2:=h2 rfl
    by_cases hx:x.right
    · have hk:x.kind = 0:=Classical.byContradiction fun h => h2 ⟨hx,h⟩
      simp (disch:=omega) only [go_sem,undef,e5,e7,e8,e9,e10,h5,h7,h8,h9,h10,Bool.not_false,H.cs]
      refine callQ H (cmd_Right_s x _) fun M f H => ?_
      simp (disch:=omega) only [go_sem,undef,e5,H.cs,dec_t hx,Bool.not_true,dec_t hk]
      refine callQ H (coreRuns_s _) fun M f H => ?_
      simp (disch:=omega) only [go_sem,undef]
      exact ⟨rfl,H.fr⟩
    · simp (disch:=omega) only [go_sem,undef,e5,e7,e8,e9,e10,h5,h7,h8,h9,h10,Bool.not_false,H.cs]
      refine callQ H (cmd_Right_s x _) fun M f H => ?_
      simp (disch:=omega) only [go_sem,undef,e5,H.cs,dec_f hx,Bool.not_false]
      refine callQ H (coreRuns_s _) fun M f H => ?_
      simp (disch:=omega) only [go_sem,undef]
      exact ⟨rfl,H.fr⟩
theorem prop_new (n i:Nat) (x:Cmd) (hi:i < n) (hn7:n ≤ 7):∃ p ok,((Co.new n i Dp.zero).propose x).2 = .tuple #[pv p,.bool ok] ∧ (ok = true → (p = fId i ∧ ((Co.new n i Dp.zero).propose x).1 = fA1 n i x) ∧ x.right ∧ x.kind ≠ 0) ∧ (ok = false → ¬ (x.right ∧ x.kind ≠ 0)):=by
  by_cases h:x.right ∧ x.kind ≠ 0
  · rw [prop_fast hi hn7 h.1 h.2]
    exact ⟨fId i,true,rfl,fun _ => ⟨⟨rfl,rfl⟩,h⟩,fun e => absurd e (by decide)⟩
  · have hp:(Co.new n i Dp.zero).propose x = (Co.new n i Dp.zero,.tuple #[pv (0,0),.bool false]):=if_pos (by
      by_cases h1:x.right
      · exact .inr (.inl (Classical.byContradiction fun h2 => h ⟨h1,h2⟩))
      · exact .inl h1)
    rw [hp]
    exact ⟨(0,0),false,rfl,fun e => absurd e (by decide),fun _ => h⟩
theorem new_hyp (n i:Nat) (hi:i < n) (hn7:n ≤ 7):(∀ k ∈ keysC (Co.new n i Dp.zero).lg,rightI k) ∧ (Co.new n i Dp.zero).top.g (Co.new n i Dp.zero).me ≤ 1073741824 ∧ 0 ≤ (Co.new n i Dp.zero).top.g (Co.new n i Dp.zero).me:=by
  have:(Co.new n i Dp.zero).top.g (Co.new n i Dp.zero).me = 0:=cut0_g i
  exact ⟨by simp [Co.new,keysC],by omega,by omega⟩
abbrev fs5:NC:=.seq Q4r5 fs6
set_option maxHeartbeats 16000000 in
theorem fast_5 {E:Env} {b5 wb i n:Nat} {x:Cmd} {V:Wv} (hn:n = 3 ∨ n = 5 ∨ n = 7) (hi:i < n) (hV:V.ok (Wd.fresh n))
    (H:Hq m M [] [wdA wb V (Wd.fresh n),cellA b5 (.cells x.cs.toArray T_api_Command (0,0))])
    (e5:E.get 5 = lp b5) (e7:E.get 7 = lp wb) (e8:E.get 8 = .int .i64 (i:Nat)) (h5:E.has 5 = true) (h7:E.has 7 = true) (h8:E.has 8 = true) :
    wpN Tryz.prog fs5 (ffQ m) E M:=by
  have hn7:n ≤ 7:=by omega
  have hC:=(fresh_shp n).get hi
  refine Exists.elim (wd_slot hV hC) fun v hv => ?_
  have hcr:=wd_crow (H.at 0 rfl)
  refine Exists.elim hcr.form fun ca hcv => Exists.elim hcv fun cc hcv => ?_
  rw [hcv] at hcr
  have hvl:=(List.getElem?_eq_some_iff.1 hv.1).1
  refine RdS.elK hcr hvl (by decide) fun bx o v' hv' hix hE => ?_
  have ev:v' = v:=Option.some.inj (hv'.symm.trans hv.1)
  subst ev
  have hp0:(cpL v')[0]? = some (lp v'.1):=rfl
  have hnh:=new_hyp n i hi hn7
  have hfit:=(new_ok n i Dp.zero hn hi).fit (Nat.zero_le _) (Nat.zero_le _) (Nat.zero_le _)
  have hpr:=fun M (hA:(coA v'.1 v'.2 (Co.new n i Dp.zero)).p M) => core_Propose_s hA hv.2 x hnh.1 hnh.2.1 hnh.2.2 hfit.xl hfit.recs hfit.leads hn7 (show i < 7 by omega) hfit.out
  refine Exists.elim (prop_new n i x hi hn7) fun p hpo => Exists.elim hpo fun ok hpo => ?_
  rw [hpo.1] at hpr
  have h1:ok = true → (p = fId i ∧ (Wd.fresh n).put i ((Co.new n i Dp.zero).propose x).1 = fW1 n i x) ∧ x.right ∧ x.kind ≠ 0:=fun e => ⟨⟨(hpo.2.1 e).1.1,by rw [(hpo.2.1 e).1.2]; rfl⟩,(hpo.2.1 e).2⟩
  have h2:=hpo.2.2
  clear hpo hfit hnh
  generalize ((Co.new n i Dp.zero).propose x).1 = C2 at *
  show wpN Tryz.prog (.seq Q4r5 fs6) _ E M
  generalize hT:fs6 = T
  have hc:=wd_cell (H.at 0 rfl)
  simp (disch:=omega) only [go_sem,undef,e5,e7,e8,h5,h7,h8,hc,wdC,hcv,hix,hE.ld0,hp0,H.cs]
  refine both_intro ?_ ?_
  · simp (disch:=omega) only [go_sem,undef,e5,e7,e8,h5,h7,h8,hc,wdC,hcv,hix,hE.ld0,hp0,H.cs]
    have H:=wd_open hv.1 hC H
    refine callA0 H (hpr _ (H.at 0 rfl)) fun u M A' hR f H => ?_
    refine hR.E fun Y2 eu hoY eA => ?_
    subst eu eA
    have H:=wd_back hv.1 hC H
    have hV2:(V.put i (v'.1,Y2)).ok ((Wd.fresh n).put i C2):=put_ok hV hoY
    have hc:=wd_cell (H.at 0 rfl)
    have hcr:=wd_crow (H.at 0 rfl)
    have hcv2:(V.put i (v'.1,Y2)).cv = .slice ca (V.put i (v'.1,Y2)).cs.length cc:=by
      show V.cv = .slice ca (V.cs.set i (v'.1,Y2)).length cc
      rw [hcv,List.length_set]
    rw [hcv2] at hcr
    have hvl2:i < (V.put i (v'.1,Y2)).cs.length:=by
      show i < (V.cs.set i (v'.1,Y2)).length
      rw [List.length_set]; exact hvl
    refine RdS.elK hcr hvl2 (by decide) fun bx2 o2 v2 hv2 hix2 hE2 => ?_
    have ev2:v2 = (v'.1,Y2):=by
      have:=hv2.symm.trans (show (V.cs.set i (v'.1,Y2))[i]? = some (v'.1,Y2) from List.getElem?_set_self hvl)
      exact Option.some.inj this
    subst ev2
    have hlen:(V.put i (v'.1,Y2)).cs.length = V.cs.length:=List.length_set
    rw [hlen] at hix2
    have ee:=Option.some.inj ((hix .i64 M).symm.trans (hix2 .i64 M))
    injection ee with ee
    injection ee with ee
    injection ee with e1 e2
    subst e1 e2
    have hcv3:(V.put i (v'.1,Y2)).cv = .slice ca V.cs.length cc:=hcv
    simp (disch:=omega) only [go_sem,undef,e5,e7,e8,h5,h7,h8,hc,wdC,hcv3,hE2.ld0,H.cs]
    refine newQ H fun b9 M f H => ?_
    have hE2:=hE2.frame f
    have hc:=wd_cell (H.at 1 rfl)
    simp (disch:=omega) only [go_sem,undef,e5,e7,e8,h5,h7,h8,H.cs,hc,wdC,hcv3,hE2.ld0,hp0]
    refine stwQ0 H rfl rfl fun M f H => ?_
    simp (disch:=omega) only [go_sem,undef,e5,e7,e8,h5,h7,h8]
    subst hT
    exact fast_6 hn hi hV2 h1 h2 H rfl rfl rfl rfl rfl rfl rfl rfl rfl rfl
  · simp (disch:=omega) only [go_sem,undef,e5,e7,e8,h5,h7,h8,hc,wdC,hcv,hix,hE.ld0,hp0,H.cs]
    refine newQ H fun b9 M f H => ?_
    have hE:=hE.frame f
    have hc:=wd_cell (H.at 1 rfl)
    simp (disch:=omega) only [go_sem,undef,e5,e7,e8,h5,h7,h8,hc,wdC,hcv,hix,hE.ld0,hp0,H.cs]
    have H:=wd_open hv.1 hC (H.perm (List.Perm.swap ..))
    refine callA0 H (hpr _ (H.at 0 rfl)) fun u M A' hR f H => ?_
    refine hR.E fun Y2 eu hoY eA => ?_
    subst eu eA
    have H:=wd_back hv.1 hC H
    have hV2:(V.put i (v'.1,Y2)).ok ((Wd.fresh n).put i C2):=put_ok hV hoY
    have H:=H.perm (List.Perm.swap ..)
    simp (disch:=omega) only [go_sem,undef,e5,e7,e8,h5,h7,h8,H.cs]
    refine stwQ0 H rfl rfl fun M f H => ?_
    simp (disch:=omega) only [go_sem,undef,e5,e7,e8,h5,h7,h8]
    subst hT
    exact fast_6 hn hi hV2 h1 h2 H rfl rfl rfl rfl rfl rfl rfl rfl rfl rfl
end Go.Fw
namespace Go.Fw
open Go.Proofs
variable {m m0 M:Mem} {S:List Nat} {L:List As}
theorem pick3 (r:Int) (h0:0 ≤ r) (h2:r ≤ 2):∃ (k n:Nat),r = (k:Nat) ∧ k < 3 ∧ ([.int .i64 3,.int .i64 5,.int .i64 7]:List Value)[k]? = some (.int .i64 (n:Nat)) ∧ (n = 3 ∨ n = 5 ∨ n = 7):=by
  have:r = 0 ∨ r = 1 ∨ r = 2:=by omega
  rcases this with rfl | rfl | rfl
  · exact ⟨0,3,rfl,by decide,rfl,.inl rfl⟩
  · exact ⟨1,5,rfl,by decide,rfl,.inr (.inl rfl)⟩
  · exact ⟨2,7,rfl,by decide,rfl,.inr (.inr rfl)⟩
theorem fast_code:Q4c = .seq Q4r0 (.seq Q4r1 (.seq (.seq Q4r2 (.cond (.slot 27) (.seq Q4r3 .ret) .skip)) (.seq Q4r4 fs5))):=rfl
set_option maxHeartbeats 16000000 in
/-- **CoreFast** -/
theorem coreFast_s (nn who:Int) (x:Cmd) (hn:R6 nn) (hw:R6 who) (m:Mem):MC Tryz.prog n_law18_CoreFast [.int .i64 nn,.int .i64 who,x.v] m fun u M => u = .bool true ∧ Fr m M []:=by
  refine Q4go (by simp [Tryz.f33]) ?_
  rw [fast_code]
  generalize hT:fs5 = T
  have H:=Hq.refl m []
  simp (disch:=omega) only [go_sem,undef]
  refine newQ H fun b5 M f H => ?_
  simp (disch:=omega) only [go_sem,undef,H.cs]
  refine newQ H fun b3 M f H => ?_
  simp (disch:=omega) only [go_sem,undef,H.cs]
  refine callR H (within_s nn 0 2 (by decide) hn (by decide) (by decide)) fun u M hR f H => ?_
  refine Exists.elim hR fun r hr => ?_
  have eu:=hr.1
  subst eu
  refine Exists.elim (pick3 r hr.2.1 hr.2.2) fun k hk => Exists.elim hk fun n hk => ?_
  have ek:=hk.1
  have hk3:=hk.2.1
  have hkn:=hk.2.2.1
  have hn357:=hk.2.2.2
  subst ek
  clear hk hr hR
  simp (disch:=omega) only [go_sem,undef,H.cs,hkn]
  refine callN H (fresh_s n hn357 _) fun u M A' hR f H => ?_
  refine Exists.elim hR fun wb hh => Exists.elim hh fun V hh => ?_
  have hV:=hh.1
  have eu:=hh.2.1
  have eA:=hh.2.2
  subst eu eA
  clear hh hR
  have hc:=wd_cell (H.at 0 rfl)
  have hnum:(Wd.fresh n).n = n:=rfl
  simp (disch:=omega) only [go_sem,undef,Option.isNone_some,hc,wdC,hnum]
  refine callR H (within_s who 0 ((n:Nat) - 1) (by omega) hw (by decide) (by omega)) fun u M hR f H => ?_
  refine Exists.elim hR fun r hr => ?_
  have eu:=hr.1
  subst eu
  refine Exists.elim (⟨r.toNat,by omega⟩:∃ i:Nat,r = (i:Nat)) fun i hi => ?_
  subst hi
  have hin:i < n:=by omega
  simp (disch:=omega) only [go_sem,undef]
  subst hT
  exact fast_5 hn357 hin hV (H.sel 3 [0,2] rfl (by decide) (by decide)) rfl rfl rfl rfl rfl rfl
end Go.Fw
