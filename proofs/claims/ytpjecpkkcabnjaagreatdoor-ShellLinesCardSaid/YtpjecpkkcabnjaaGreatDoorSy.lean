import Derived.Test.YtpjecpkkcabnjaaGreatDoorSwA
import Derived.Shelf.Strconv.AtoiAll
import Derived.Shelf.Strconv.Itoa3
import Derived.Shelf.Strings.OnBuilder
import Derived.Test.YtpjecpkkcabnjaaGreatDoorSwD
import Derived.Lib.AppendIntMem
import Derived.Lib.AtoiErrMem
set_option linter.unusedVariables false
set_option linter.unusedSimpArgs false
namespace Go.Fw
open Go.Proofs Go.Shelf
/-! strconv.Atoi, strconv.Itoa and strings.Join off the library's shelf -/
def atR : Ren where
  f := fun x => match x with | 172 => 44 | 244 => 78 | 245 => 79 | 247 => 122 | 279 => 123 | 280 => 124 | 281 => 125 | 282 => 126 | 287 => 191 | 316 => 192 | 171 => 17 | 205 => 193 | 321 => 268 | 322 => 269 | 243 => 26 | 246 => 41 | 283 => 72 | 284 => 73 | 285 => 74 | 286 => 75 | 129 => 118 | 317 => 117 | 318 => 119 | 319 => 120 | 320 => 121 | 337 => 189 | 338 => 190 | n => n
  t := fun x => match x with | 75 => 68 | 76 => 69 | 167 => 226 | 37 => 60 | 85 => 227 | 168 => 229 | 53 => 149 | 175 => 298 | 46 => 62 | 210 => 301 | 127 => 93 | 145 => 390 | 143 => 388 | 171 => 148 | 173 => 152 | 212 => 222 | 51 => 223 | 213 => 224 | 232 => 385 | 233 => 386 | 80 => 71 | n => n
  g := fun x => match x with | 15 => 2 | 16 => 3 | 17 => 0 | 18 => 6 | 19 => 7 | n => n
theorem at_lays : LaysC.n172 Tryz.prog atR where
  mixed := by kernel_rfl
  f129 := Eq.trans Tryz.func118 (congrArg some rfl)
  f171 := Eq.trans Tryz.func17 (congrArg some rfl)
  f172 := Eq.trans Tryz.func44 (congrArg some rfl)
  f205 := Eq.trans Tryz.func193 (congrArg some rfl)
  f243 := Eq.trans Tryz.func26 (congrArg some rfl)
  f244 := Eq.trans Tryz.func78 (congrArg some rfl)
  f245 := Eq.trans Tryz.func79 (congrArg some rfl)
  f246 := Eq.trans Tryz.func41 (congrArg some rfl)
  f247 := Eq.trans Tryz.func122 (congrArg some rfl)
  f279 := Eq.trans Tryz.func123 (congrArg some rfl)
  f280 := Eq.trans Tryz.func124 (congrArg some rfl)
  f281 := Eq.trans Tryz.func125 (congrArg some rfl)
  f282 := Eq.trans Tryz.func126 (congrArg some rfl)
  f283 := Eq.trans Tryz.func72 (congrArg some rfl)
  f284 := Eq.trans Tryz.func73 (congrArg some rfl)
  f285 := Eq.trans Tryz.func74 (congrArg some rfl)
  f286 := Eq.trans Tryz.func75 (congrArg some rfl)
  f287 := Eq.trans Tryz.func191 (congrArg some rfl)
  f316 := Eq.trans Tryz.func192 (congrArg some rfl)
  f317 := Eq.trans Tryz.func117 (congrArg some rfl)
  f318 := Eq.trans Tryz.func119 (congrArg some rfl)
  f319 := Eq.trans Tryz.func120 (congrArg some rfl)
  f320 := Eq.trans Tryz.func121 (congrArg some rfl)
  f321 := Eq.trans Tryz.func268 (congrArg some rfl)
  f322 := Eq.trans Tryz.func269 (congrArg some rfl)
  f337 := Eq.trans Tryz.func189 (congrArg some rfl)
  f338 := Eq.trans Tryz.func190 (congrArg some rfl)
  t0 := Tryz.underlying0
  a0 := Tryz.isAgg0
  z0 := Tryz.sizeOf0
  v0 := Tryz.zeroValue0
  t2 := Tryz.underlying2
  a2 := Tryz.isAgg2
  z2 := Tryz.sizeOf2
  v2 := Tryz.zeroValue2
  t3 := Tryz.underlying3
  a3 := Tryz.isAgg3
  z3 := Tryz.sizeOf3
  v3 := Tryz.zeroValue3
  t4 := Tryz.underlying4
  a4 := Tryz.isAgg4
  z4 := Tryz.sizeOf4
  v4 := Tryz.zeroValue4
  t5 := Tryz.underlying5
  a5 := Tryz.isAgg5
  z5 := Tryz.sizeOf5
  v5 := Tryz.zeroValue5
  t9 := Tryz.underlying9
  a9 := Tryz.isAgg9
  z9 := Tryz.sizeOf9
  v9 := Tryz.zeroValue9
  t20 := Tryz.underlying20
  a20 := Tryz.isAgg20
  z20 := Tryz.sizeOf20
  v20 := Tryz.zeroValue20
  t21 := Tryz.underlying21
  a21 := Tryz.isAgg21
  z21 := Tryz.sizeOf21
  v21 := Tryz.zeroValue21
  t37 := Tryz.underlying60
  a37 := Tryz.isAgg60
  z37 := Tryz.sizeOf60
  v37 := Tryz.zeroValue60
  t46 := Tryz.underlying62
  a46 := Tryz.isAgg62
  z46 := Tryz.sizeOf62
  v46 := Tryz.zeroValue62
  t51 := Tryz.underlying223
  a51 := Tryz.isAgg223
  z51 := Tryz.sizeOf223
  v51 := Tryz.zeroValue223
  t53 := Tryz.underlying149
  a53 := Tryz.isAgg149
  z53 := Tryz.sizeOf149
  v53 := Tryz.zeroValue149
  t75 := Tryz.underlying68
  a75 := Tryz.isAgg68
  z75 := Tryz.sizeOf68
  v75 := Tryz.zeroValue68
  t76 := Tryz.underlying69
  a76 := Tryz.isAgg69
  z76 := Tryz.sizeOf69
  v76 := Tryz.zeroValue69
  t85 := Tryz.underlying227
  a85 := Tryz.isAgg227
  z85 := Tryz.sizeOf227
  v85 := Tryz.zeroValue227
  t127 := Tryz.underlying93
  a127 := Tryz.isAgg93
  z127 := Tryz.sizeOf93
  v127 := Tryz.zeroValue93
  t143 := Tryz.underlying388
  a143 := Tryz.isAgg388
  z143 := Tryz.sizeOf388
  v143 := Tryz.zeroValue388
  t145 := Tryz.underlying390
  a145 := Tryz.isAgg390
  z145 := Tryz.sizeOf390
  v145 := Tryz.zeroValue390
  t167 := Tryz.underlying226
  a167 := Tryz.isAgg226
  z167 := Tryz.sizeOf226
  v167 := Tryz.zeroValue226
  t168 := Tryz.underlying229
  a168 := Tryz.isAgg229
  z168 := Tryz.sizeOf229
  v168 := Tryz.zeroValue229
  t171 := Tryz.underlying148
  a171 := Tryz.isAgg148
  z171 := Tryz.sizeOf148
  v171 := Tryz.zeroValue148
  t173 := Tryz.underlying152
  a173 := Tryz.isAgg152
  z173 := Tryz.sizeOf152
  v173 := Tryz.zeroValue152
  t175 := Tryz.underlying298
  a175 := Tryz.isAgg298
  z175 := Tryz.sizeOf298
  v175 := Tryz.zeroValue298
  t210 := Tryz.underlying301
  a210 := Tryz.isAgg301
  z210 := Tryz.sizeOf301
  v210 := Tryz.zeroValue301
  t212 := Tryz.underlying222
  a212 := Tryz.isAgg222
  z212 := Tryz.sizeOf222
  v212 := Tryz.zeroValue222
  t213 := Tryz.underlying224
  a213 := Tryz.isAgg224
  z213 := Tryz.sizeOf224
  t232 := Tryz.underlying385
  a232 := Tryz.isAgg385
  z232 := Tryz.sizeOf385
  v232 := Tryz.zeroValue385
  t233 := Tryz.underlying386
  a233 := Tryz.isAgg386
  z233 := Tryz.sizeOf386
  v233 := Tryz.zeroValue386
  g15 := by kernel_rfl
  g16 := by kernel_rfl
  g17 := by kernel_rfl
  g18 := by kernel_rfl
  g19 := by kernel_rfl
  t80 := Tryz.underlying71
  a80 := Tryz.isAgg71
  z80 := Tryz.sizeOf71
  v80 := Tryz.zeroValue71
  i0 := by kernel_rfl
  i2 := by kernel_rfl
  i3 := by kernel_rfl
  i4 := by kernel_rfl
  i5 := by kernel_rfl
  i9 := by kernel_rfl
  i20 := by kernel_rfl
  i21 := by kernel_rfl
  i37 := by kernel_rfl
  i46 := by kernel_rfl
  i51 := by kernel_rfl
  i53 := by kernel_rfl
  i75 := by kernel_rfl
  i76 := by kernel_rfl
  i80 := by kernel_rfl
  i85 := by kernel_rfl
  i127 := by kernel_rfl
  i143 := by kernel_rfl
  i145 := by kernel_rfl
  i167 := by kernel_rfl
  i168 := by kernel_rfl
  i171 := by kernel_rfl
  i173 := by kernel_rfl
  i175 := by kernel_rfl
  i210 := by kernel_rfl
  i212 := by kernel_rfl
  i232 := by kernel_rfl
  i233 := by kernel_rfl
  m15 := by kernel_rfl
  m16 := by kernel_rfl
  m17 := by kernel_rfl
  m18 := by kernel_rfl
  m19 := by kernel_rfl
  c0 := by kernel_rfl
  c2 := by kernel_rfl
  c3 := by kernel_rfl
  c4 := by kernel_rfl
  c5 := by kernel_rfl
  c9 := by kernel_rfl
  c20 := by kernel_rfl
  c21 := by kernel_rfl
  c37 := by kernel_rfl
  c46 := by kernel_rfl
  c51 := by kernel_rfl
  c53 := by kernel_rfl
  c75 := by kernel_rfl
  c76 := by kernel_rfl
  c80 := by kernel_rfl
  c85 := by kernel_rfl
  c127 := by kernel_rfl
  c143 := by kernel_rfl
  c145 := by kernel_rfl
  c167 := by kernel_rfl
  c168 := by kernel_rfl
  c171 := by kernel_rfl
  c173 := by kernel_rfl
  c175 := by kernel_rfl
  c210 := by kernel_rfl
  c212 := by kernel_rfl
  c213 := by kernel_rfl
  c232 := by kernel_rfl
  c233 := by kernel_rfl
end Go.Fw
namespace Go.Fw
open Go.Proofs Go.Shelf
def itR : Ren where
  f := fun x => match x with | 171 => 17 | 243 => 26 | 246 => 41 | 283 => 72 | 284 => 73 | 285 => 74 | 286 => 75 | 129 => 118 | 317 => 117 | 318 => 119 | 319 => 120 | 320 => 121 | 337 => 189 | 338 => 190 | n => n
  t := fun x => match x with | 171 => 148 | 53 => 149 | 37 => 60 | 173 => 152 | 212 => 222 | 51 => 223 | 213 => 224 | 46 => 62 | 232 => 385 | 233 => 386 | n => n
  g := fun x => match x with | 17 => 0 | 18 => 6 | 19 => 7 | n => n
theorem it_lays : LaysM.n171 Tryz.prog itR where
  mixed := by kernel_rfl
  f129 := Eq.trans Tryz.func118 (congrArg some rfl)
  f171 := Eq.trans Tryz.func17 (congrArg some rfl)
  f243 := Eq.trans Tryz.func26 (congrArg some rfl)
  f246 := Eq.trans Tryz.func41 (congrArg some rfl)
  f283 := Eq.trans Tryz.func72 (congrArg some rfl)
  f284 := Eq.trans Tryz.func73 (congrArg some rfl)
  f285 := Eq.trans Tryz.func74 (congrArg some rfl)
  f286 := Eq.trans Tryz.func75 (congrArg some rfl)
  f317 := Eq.trans Tryz.func117 (congrArg some rfl)
  f318 := Eq.trans Tryz.func119 (congrArg some rfl)
  f319 := Eq.trans Tryz.func120 (congrArg some rfl)
  f320 := Eq.trans Tryz.func121 (congrArg some rfl)
  f337 := Eq.trans Tryz.func189 (congrArg some rfl)
  f338 := Eq.trans Tryz.func190 (congrArg some rfl)
  t0 := Tryz.underlying0
  a0 := Tryz.isAgg0
  z0 := Tryz.sizeOf0
  v0 := Tryz.zeroValue0
  t2 := Tryz.underlying2
  a2 := Tryz.isAgg2
  z2 := Tryz.sizeOf2
  v2 := Tryz.zeroValue2
  t3 := Tryz.underlying3
  a3 := Tryz.isAgg3
  z3 := Tryz.sizeOf3
  v3 := Tryz.zeroValue3
  t4 := Tryz.underlying4
  a4 := Tryz.isAgg4
  z4 := Tryz.sizeOf4
  v4 := Tryz.zeroValue4
  t5 := Tryz.underlying5
  a5 := Tryz.isAgg5
  z5 := Tryz.sizeOf5
  v5 := Tryz.zeroValue5
  t9 := Tryz.underlying9
  a9 := Tryz.isAgg9
  z9 := Tryz.sizeOf9
  v9 := Tryz.zeroValue9
  t20 := Tryz.underlying20
  a20 := Tryz.isAgg20
  z20 := Tryz.sizeOf20
  v20 := Tryz.zeroValue20
  t37 := Tryz.underlying60
  a37 := Tryz.isAgg60
  z37 := Tryz.sizeOf60
  v37 := Tryz.zeroValue60
  t46 := Tryz.underlying62
  a46 := Tryz.isAgg62
  z46 := Tryz.sizeOf62
  v46 := Tryz.zeroValue62
  t51 := Tryz.underlying223
  a51 := Tryz.isAgg223
  z51 := Tryz.sizeOf223
  v51 := Tryz.zeroValue223
  t53 := Tryz.underlying149
  a53 := Tryz.isAgg149
  z53 := Tryz.sizeOf149
  v53 := Tryz.zeroValue149
  t171 := Tryz.underlying148
  a171 := Tryz.isAgg148
  z171 := Tryz.sizeOf148
  v171 := Tryz.zeroValue148
  t173 := Tryz.underlying152
  a173 := Tryz.isAgg152
  z173 := Tryz.sizeOf152
  v173 := Tryz.zeroValue152
  t212 := Tryz.underlying222
  a212 := Tryz.isAgg222
  z212 := Tryz.sizeOf222
  v212 := Tryz.zeroValue222
  t213 := Tryz.underlying224
  a213 := Tryz.isAgg224
  z213 := Tryz.sizeOf224
  t232 := Tryz.underlying385
  a232 := Tryz.isAgg385
  z232 := Tryz.sizeOf385
  v232 := Tryz.zeroValue385
  t233 := Tryz.underlying386
  a233 := Tryz.isAgg386
  z233 := Tryz.sizeOf386
  v233 := Tryz.zeroValue386
  g17 := by kernel_rfl
  g18 := by kernel_rfl
  g19 := by kernel_rfl
  i0 := by kernel_rfl
  i2 := by kernel_rfl
  i3 := by kernel_rfl
  i4 := by kernel_rfl
  i5 := by kernel_rfl
  i9 := by kernel_rfl
  i20 := by kernel_rfl
  i37 := by kernel_rfl
  i46 := by kernel_rfl
  i51 := by kernel_rfl
  i53 := by kernel_rfl
  i171 := by kernel_rfl
  i173 := by kernel_rfl
  i212 := by kernel_rfl
  i232 := by kernel_rfl
  i233 := by kernel_rfl
  m17 := by kernel_rfl
  m18 := by kernel_rfl
  m19 := by kernel_rfl
def joR : Ren where
  f := fun x => match x with | 156 => 20 | 165 => 28 | 166 => 29 | 169 => 30 | 240 => 42 | 241 => 43 | 276 => 76 | 277 => 77 | n => n
  t := fun x => match x with | 31 => 43 | 72 => 65 | 76 => 69 | 70 => 63 | 37 => 60 | 75 => 68 | 127 => 93 | 164 => 154 | 80 => 71 | n => n
  g := fun n => n
theorem jo_lays : Lays.n156 Tryz.prog joR where
  mixed := by kernel_rfl
  f156 := Eq.trans Tryz.func20 (congrArg some rfl)
  f165 := Eq.trans Tryz.func28 (congrArg some rfl)
  f166 := Eq.trans Tryz.func29 (congrArg some rfl)
  f169 := Eq.trans Tryz.func30 (congrArg some rfl)
  f240 := Eq.trans Tryz.func42 (congrArg some rfl)
  f241 := Eq.trans Tryz.func43 (congrArg some rfl)
  f276 := Eq.trans Tryz.func76 (congrArg some rfl)
  f277 := Eq.trans Tryz.func77 (congrArg some rfl)
  t0 := Tryz.underlying0
  a0 := Tryz.isAgg0
  z0 := Tryz.sizeOf0
  v0 := Tryz.zeroValue0
  t3 := Tryz.underlying3
  a3 := Tryz.isAgg3
  z3 := Tryz.sizeOf3
  v3 := Tryz.zeroValue3
  t4 := Tryz.underlying4
  a4 := Tryz.isAgg4
  z4 := Tryz.sizeOf4
  v4 := Tryz.zeroValue4
  t9 := Tryz.underlying9
  a9 := Tryz.isAgg9
  z9 := Tryz.sizeOf9
  v9 := Tryz.zeroValue9
  t20 := Tryz.underlying20
  a20 := Tryz.isAgg20
  z20 := Tryz.sizeOf20
  v20 := Tryz.zeroValue20
  t31 := Tryz.underlying43
  a31 := Tryz.isAgg43
  z31 := Tryz.sizeOf43
  v31 := Tryz.zeroValue43
  t37 := Tryz.underlying60
  a37 := Tryz.isAgg60
  z37 := Tryz.sizeOf60
  v37 := Tryz.zeroValue60
  t70 := Tryz.underlying63
  a70 := Tryz.isAgg63
  z70 := Tryz.sizeOf63
  v70 := Tryz.zeroValue63
  t72 := Tryz.underlying65
  a72 := Tryz.isAgg65
  z72 := Tryz.sizeOf65
  v72 := Tryz.zeroValue65
  t75 := Tryz.underlying68
  a75 := Tryz.isAgg68
  z75 := Tryz.sizeOf68
  v75 := Tryz.zeroValue68
  t76 := Tryz.underlying69
  a76 := Tryz.isAgg69
  z76 := Tryz.sizeOf69
  v76 := Tryz.zeroValue69
  t127 := Tryz.underlying93
  a127 := Tryz.isAgg93
  z127 := Tryz.sizeOf93
  v127 := Tryz.zeroValue93
  t164 := Tryz.underlying154
  a164 := Tryz.isAgg154
  z164 := Tryz.sizeOf154
  v164 := Tryz.zeroValue154
end Go.Fw
namespace Go.Fw
open Go.Proofs Go.Sh Go.RowKit
variable {m m0 M : Mem} {S : List Nat} {L : List As}
/-! the library's contracts over abstract memory -/
/-- what is laid: the powers of ten, the two errors -/
structure Gs (m : Mem) : Prop where
  pw : ∃ t fr, m 0 = some (.cells (Lib.pow10Tab.map fun z => Value.int .u64 z).toArray t fr)
  es : ∃ t u, cellAt (m 2) 0 = some (.iface t u)
  er : ∃ t u, cellAt (m 3) 0 = some (.iface t u)
theorem cellAt_some {o : Option Obj} {i : Nat} {v : Value} (h : cellAt o i = some v) : o ≠ none := by rintro rfl; cases h
theorem Gs.fr (h : Gs m) (f : Fr m M []) : Gs M := by
  obtain ⟨⟨t, fr, hp⟩, ⟨t1, u1, h1⟩, ⟨t2, u2, h2⟩⟩ := h
  exact ⟨⟨t, fr, f.get0 hp⟩, ⟨t1, u1, by rw [f 2 (cellAt_some h1) (by simp)]; exact h1⟩, ⟨t2, u2, by rw [f 3 (cellAt_some h2) (by simp)]; exact h2⟩⟩
theorem mc_below {f : Nat} {args : List Value} {R : Value → Prop} (h : ∀ w, absM w = m → Calls Tryz.prog f args.toArray w fun e w' => (∃ v, e = .returned v ∧ R v) ∧ Below w.heap.size w w') : MC Tryz.prog f args m fun v M => R v ∧ Fr m M [] := by
  intro w hw
  refine (h w hw).mono fun e w' hh => ?_
  subst hw
  obtain ⟨⟨v, he, hr⟩, hb⟩ := hh
  refine ⟨v, he, ⟨hb.os, hb.output, hb.size, hb.tape⟩, hr, fun b hn _ => hb.block b ?_⟩
  show b < w.heap.size
  rcases Nat.lt_or_ge b w.heap.size with h1 | h1
  · exact h1
  · exact absurd (Array.getElem?_eq_none h1) hn
theorem itoa_s (n : Int) (hn : I64 n) (hG : Gs m) : MC Tryz.prog n_strconv_Itoa [.int .i64 n] m fun v M => v = strV (Lib.itoa n) ∧ Fr m M [] := by
  refine mc_below fun w hw => ?_
  have htab : Lib.TabIs Tryz.prog w "internal/strconv.uint64pow10" .u64 Lib.pow10Tab := by
    obtain ⟨t, fr, hp⟩ := hG.pw
    subst hw
    have hg : Tryz.prog.globalNamed "internal/strconv.uint64pow10" = some 0 := by kernel_rfl
    unfold Lib.TabIs World.var?
    rw [hg, Option.bind_some, show w.heap[0]? = _ from hp]
  refine (Any.strconv_Itoa it_lays n hn.1 hn.2 w htab).mono fun e w' hh => ?_
  obtain ⟨he, k, os, rfl⟩ := hh
  exact ⟨⟨_, he, rfl⟩, Lib.below_grow _ _ (Nat.le_refl _) k os⟩
theorem atoi_s (l : List UInt8) (hl : l.length ≤ 1000000) (hG : Gs m) : MC Tryz.prog n_strconv_Atoi [strV l] m fun v M => (∃ e, v = .tuple #[.int .i64 (numV l), e]) ∧ Fr m M [] := by
  refine mc_below fun w hw => ?_
  subst hw
  have hsz : (zb l).size ≤ 281474976710656 := by rw [zb_size]; omega
  rcases ha : Lib.atoiAll l with v | _ | _
  ·
    have hv : numV l = v := by unfold numV; rw [ha]; try rfl
    refine (Any.strconv_Atoi_ok at_lays (zb l) (by omega) v ha w).mono fun e w' hh => ?_
    obtain ⟨he, hw⟩ := hh
    refine ⟨⟨_, he, ⟨_, by rw [hv]⟩⟩, ?_⟩
    rcases hw with rfl | ⟨t, rfl⟩
    · exact Below.refl _ _
    · exact Lib.bytesWorld_below w _ t
  ·
    have hv : numV l = 0 := by unfold numV; rw [ha]; try rfl
    obtain ⟨t, u, hc⟩ := hG.es
    have hv2 : w.cell? ⟨2, 0, none⟩ = some (.iface t u) := by rw [← cell_abs, cell_mk]; exact hc
    refine (Any.strconv_Atoi_syntax at_lays (zb l) hsz ha _ w hv2 (.inr ⟨_, _, rfl⟩)).mono fun e w' hh => ?_
    obtain ⟨N, he, _, _, hb⟩ := hh
    exact ⟨⟨_, he, ⟨_, by rw [hv]⟩⟩, hb⟩
  ·
    have hv : numV l = Lib.atoiSat l := by unfold numV; rw [ha]; try rfl
    obtain ⟨t, u, hc⟩ := hG.er
    have hv2 : w.cell? ⟨3, 0, none⟩ = some (.iface t u) := by rw [← cell_abs, cell_mk]; exact hc
    refine (Any.strconv_Atoi_range at_lays (zb l) hsz ha _ w hv2 (.inr ⟨_, _, rfl⟩)).mono fun e w' hh => ?_
    obtain ⟨N, he, _, _, hb⟩ := hh
    exact ⟨⟨_, he, ⟨_, by rw [hv]; rfl⟩⟩, hb⟩
theorem number_s (l : List UInt8) (hl : l.length ≤ 1000000) (hG : Gs m) : MC Tryz.prog n_shell_number [strV l] m fun v M => v = .int .i64 (numV l) ∧ Fr m M [] := by
  refine shell_number_go (by simp [Tryz.f33]) ?_
  have H := Hq.refl m []
  simp (disch := omega) only [go_sem, undef]
  refine callR H (atoi_s l hl hG) fun v M hv f H => ?_
  obtain ⟨e, rfl⟩ := hv
  simp (disch := omega) only [go_sem, undef]
  exact ⟨rfl, H.fr⟩
theorem jo_extra : Builder.Extra Tryz.prog joR where
  sizeBuilder := by kernel_rfl
  liesBuilder := by kernel_rfl
  t5 := Tryz.underlying5
  a5 := Tryz.isAgg5
  z5 := Tryz.sizeOf5
  v5 := Tryz.zeroValue5
  infoByte := by kernel_rfl
  cellsByte := by kernel_rfl
  sizeByte := by kernel_rfl
  neB5 := by decide
theorem join_s {v : Value} {ls : List (List UInt8)} (h : RdS 1 sc m v ls) (hl : ls.length ≤ 1000000) (hj : (Lib.join ls [32]).length ≤ 100000000) : MC Tryz.prog n_strings_Join [v, .string spB] m fun u M => u = strV (Lib.join ls [32]) ∧ Fr m M [] := by
  refine mc_below fun w hw => ?_
  subst hw
  obtain ⟨_, a, c, rfl, hc, hr⟩ := h
  have hx : (ls.map zb).map (·.data.toList) = ls := by
    rw [List.map_map]
    have : ((fun x : ByteArray => x.data.toList) ∘ zb) = id := by funext l; simp [zb]
    rw [this, List.map_id]
  rcases hr with h0 | ⟨b, o, rfl, hcl⟩
  · have : ls = [] := by rw [sc_map] at h0; simpa using h0
    subst this
    refine (Any.strings_Join_none jo_lays jo_extra a c spB w).mono fun e w' hh => ?_
    obtain ⟨he, rfl⟩ := hh
    exact ⟨⟨_, he, rfl⟩, Below.refl _ _⟩
  · cases hls : ls with
    | nil =>
      subst hls
      refine (Any.strings_Join_none jo_lays jo_extra _ c spB w).mono fun e w' hh => ?_
      obtain ⟨he, rfl⟩ := hh
      exact ⟨⟨_, he, rfl⟩, Below.refl _ _⟩
    | cons x r =>
      rw [← hls]
      have hcells : ∀ (j : Nat) y, (ls.map zb)[j]? = some y → w.cell? ⟨b, o + j, none⟩ = some (.string y) := fun j y hy => by
        rw [← cell_abs, cell_mk]
        refine hcl j _ ?_
        rw [sc_map, List.getElem?_map]
        rw [List.getElem?_map] at hy
        cases hq : ls[j]? with
        | none => rw [hq] at hy; cases hy
        | some l => rw [hq] at hy; cases hy; rfl
      have hbk : b < w.heap.size := by
        have h1 := hcells 0 (zb x) (by rw [hls]; rfl)
        rw [← cell_abs, cell_mk] at h1
        have h2 := cellAt_some h1
        rcases Nat.lt_or_ge b w.heap.size with h3 | h3
        · exact h3
        · exact absurd (Array.getElem?_eq_none h3) h2
      have key := Any.strings_Join jo_lays jo_extra b o c (ls.map zb) spB w hcells hbk (by rw [List.length_map]; omega) (by rw [List.length_map]; exact hc) (by rw [hx]; exact Nat.le_trans hj (by omega))
      rw [hx, List.length_map] at key
      refine key.mono fun e w' hh => ?_
      obtain ⟨he, hb⟩ := hh
      exact ⟨⟨_, he, rfl⟩, hb⟩
end Go.Fw
